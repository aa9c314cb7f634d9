/- Slices: cutting, appending. Own work. -/
import Derived.Test.YtbcpffhialoliaaEvOpt
namespace Go.Ev
open Go
set_option linter.unusedVariables false
set_option linter.unusedSimpArgs false

def BoundR : Option Nat → Option Value → Prop
  | none, none => True
  | some n, some v => ∃ k, v = .int k n
  | _, _ => False

section
variable {w : World} {S : Sta} {ρ : Pos} {H : Heap} {P : Program}

theorem run_sliceBound {n y : Nat} {k : IntKind} (h : n ≤ y) (code : BoundsCode) : (Instr.sliceBound (.int k n) y code).run P w = .ok n w := by
  have h1 : (0 : Int) ≤ n ∧ (n : Int) ≤ y := ⟨by omega, by omega⟩
  simp [Instr.sliceBound, asIntOf, h1]
theorem run_sliceBounds {b : Bool} {len cap : Nat} {lo hi mx : Option Value} {l h m : Option Nat} (hl : BoundR l lo) (hh : BoundR h hi) (hm : BoundR m mx)
    (h1 : l.getD 0 ≤ h.getD len) (h2 : h.getD len ≤ m.getD cap) (h3 : m.getD cap ≤ cap) (h4 : ¬ (m.isSome ∧ h = none)) :
    (Instr.sliceBounds b len cap lo hi mx).run P w = .ok (l.getD 0, h.getD len, m.getD cap) w := by
  cases l <;> cases lo <;> simp only [BoundR] at hl <;> cases h <;> cases hi <;> simp only [BoundR] at hh <;> cases m <;> cases mx <;> simp only [BoundR] at hm <;>
    (try obtain ⟨_, rfl⟩ := hl) <;> (try obtain ⟨_, rfl⟩ := hh) <;> (try obtain ⟨_, rfl⟩ := hm) <;>
    simp only [Option.getD_none, Option.getD_some] at h1 h2 h3 <;> (try (simp at h4; done)) <;>
    simp only [Instr.sliceBounds, Sem.run_bind, Sem.run_pure, Result.andThen_ok, Option.getD_none, Option.getD_some, Option.isSome_none, Option.isSome_some, run_sliceBound h1, run_sliceBound h2, run_sliceBound h3]

theorem gives_ssl (hr : Rel w S ρ H) {t : TypeId} (hu : P.underlying t = some .string) {x : AV} {v : Value} {s : List UInt8} (hv : VR w S ρ x v) (e1 : x.asStr = some s)
    {lo hi : Option Value} {l h : Option Nat} (hl : BoundR l lo) (hh : BoundR h hi) (h1 : l.getD 0 ≤ h.getD s.length) (h2 : h.getD s.length ≤ s.length) (hna : ∀ n e, P.underlying t ≠ some (.array n e)) :
    Gives P w S ρ H (.d (.str ((s.drop (l.getD 0)).take (h.getD s.length - l.getD 0)))) H (Instr.sliceAt t v lo hi none) := by
  rw [asStr_inv hv e1]
  refine gives_dat hr ?_ (.str _)
  have hs : (ByteArray.mk s.toArray).size = s.length := by simp [ByteArray.size]
  have hb := run_sliceBounds (P := P) (w := w) (b := false) (len := s.length) (cap := s.length) hl hh (m := none) (mx := none) trivial h1 h2 (Nat.le_refl _) (by simp)
  simp only [Instr.sliceAt, Instr.slice, Sem.run_bind, run_underlying hu, Result.andThen_ok, Option.isSome_none, Bool.false_eq_true, if_false, Sem.run_pure, hs, hb]
  congr 2
  apply ByteArray.ext
  rw [ByteArray.data_extract]
  simp [List.extract_eq_take_drop]

theorem rowdr_sub {xs : List (List D)} {l n : Nat} (hn : l + n ≤ xs.length) : ((xs.drop l).take n).length = n ∧ ∀ i, i < n → ((xs.drop l).take n).getD i [] = xs.getD (l + i) [] :=
  ⟨by simp; omega, fun i hi => by rw [getD_take _ _ _ _ hi, getD_drop]⟩

/-- A piece of what reads as a list. -/
theorem dr_sub {z : Nat} {xs : List (List D)} {a : Option Addr} {n cap : Nat} (h : DR w S (.list z xs) (.slice a n cap)) {l m : Nat} (hlm : l + m ≤ xs.length) (cap' : Nat) (hc : m ≤ cap') (a' : Option Addr)
    (ha : 0 < m → a' = a.map (·.add (l * z))) : DR w S (.list z ((xs.drop l).take m)) (.slice a' m cap') := by
  cases h with
  | list _ _ _ _ _ b o c hn h1 h2 h3 h4 h5 =>
    obtain ⟨e1, e2⟩ := rowdr_sub hlm
    have hmul : l * z + m * z ≤ xs.length * z := by rw [← Nat.add_mul]; exact Nat.mul_le_mul_right z hlm
    refine .list z _ _ _ _ b (o + l * z) (fun k => c (l * z + k)) e1.symm (by omega) (fun hp => ?_) (fun k hk => ?_) (fun i hi => ?_) (fun i hi j hj => ?_)
    · rw [e1] at hp
      obtain ⟨ha1, hb⟩ := h2 (by omega)
      rw [ha hp, ha1]
      exact ⟨by simp [addr_add], hb⟩
    · rw [e1] at hk
      rw [Nat.add_assoc]; exact h3 _ (by omega)
    · rw [e1] at hi; rw [e2 i hi]; exact h4 _ (by omega)
    · rw [e1] at hi; rw [e2 i hi]
      have := h5 (l + i) (by omega) j hj
      rwa [Nat.add_mul, Nat.add_assoc] at this

theorem gives_sl (hr : Rel w S ρ H) {t e : TypeId} {ti : TypeInfo} (hu : P.underlying t = some (.slice e)) (hi : P.info? e = some ti) {x r : AV} {v : Value} (hv : VR w S ρ x v)
    {lo hi' mx : Option Value} {l h m : Option Nat} (hl : BoundR l lo) (hh : BoundR h hi') (hm : BoundR m mx) (h4 : ¬ (m.isSome ∧ h = none)) (hs : slA x l h m ti.size = some r) :
    Gives P w S ρ H r H (Instr.sliceAt t v lo hi' mx) := by
  have run : ∀ (a : Option Addr) (len cap : Nat), len ≤ cap → l.getD 0 ≤ h.getD len → h.getD len ≤ m.getD cap → m.getD cap ≤ cap →
      (Instr.sliceAt t (.slice a len cap) lo hi' mx).run P w = .ok (.slice (if m.getD cap = l.getD 0 then a else a.map (·.add (l.getD 0 * ti.size))) (h.getD len - l.getD 0) (m.getD cap - l.getD 0)) w := by
    intro a len cap hlc a1 a2 a3
    simp only [Instr.sliceAt, Instr.slice, Sem.run_bind, run_underlying hu, Result.andThen_ok, Sem.run_pure, run_sliceBounds hl hh hm a1 a2 a3 h4, run_sizeOf hi]
  unfold slA at hs
  split at hs
  · rename_i z' xs
    simp only at hs
    split at hs
    case isFalse => simp at hs
    rename_i hc
    obtain ⟨rfl, hc1, hc2⟩ := hc
    have hd := hv.dr
    have hcase : ∃ a cap, v = .slice a xs.length cap ∧ xs.length ≤ cap := by
      cases hd with
      | list _ _ a n cap b o c hn h1 => subst hn; exact ⟨a, cap, rfl, h1⟩
    obtain ⟨a, cap, rfl, hcap⟩ := hcase
    split at hs
    · rename_i hmn
      injection hs with hs; subst hs
      have := run a xs.length cap hcap hc1 (by simp; omega) (by simp)
      refine gives_dat hr this ?_
      refine dr_sub hd (by omega) _ (by simp; omega) _ (fun hp => ?_)
      rw [if_neg (by simp; omega)]
    · rename_i m' hmn
      split at hs
      case isFalse => simp at hs
      rename_i hc3
      have := run a xs.length cap hcap hc1 (by simp; omega) (by simp; omega)
      split at hs
      · rename_i hlm
        injection hs with hs; subst hs
        refine gives_dat hr this ?_
        simp only [Option.getD_some, ← hlm, if_true]
        rw [show h.getD xs.length - l.getD 0 = 0 from by omega, Nat.sub_self]
        exact .emp _
      · rename_i hlm
        injection hs with hs; subst hs
        refine gives_dat hr this ?_
        refine dr_sub hd (by omega) _ (by simp; omega) _ (fun hp => ?_)
        rw [if_neg (by simp; omega)]
  · rename_i j z' o n k
    simp only at hs
    split at hs
    case isFalse => simp at hs
    rename_i hc
    obtain ⟨rfl, hc1, hc2⟩ := hc
    cases hv with
    | own _ _ _ _ _ a cap b1 b2 b3 =>
      have key : ∀ (kk : Bool), m.getD cap ≤ cap → h.getD n ≤ m.getD cap → (kk = true → m.getD cap = h.getD n) → Gives P w S ρ H (.own j ti.size (o + l.getD 0) (h.getD n - l.getD 0) kk) H (Instr.sliceAt t (.slice a n cap) lo hi' mx) := by
        intro kk c1 c2 c3
        refine gives_same hr (run a n cap b1 hc1 c2 c1) ?_
        refine .own _ _ _ _ _ _ _ (by omega) (fun hk => by rw [c3 hk]) (fun hp => ?_)
        obtain ⟨g, β, e1, e2, e3⟩ := b3 (by omega)
        refine ⟨g, β, e1, ?_, ?_⟩
        · rw [if_neg (by omega), e2]
          simp [addr_add, Nat.add_mul, Nat.add_assoc]
        · refine Nat.le_trans ?_ e3
          have : (o + l.getD 0 + (m.getD cap - l.getD 0)) * ti.size ≤ (o + cap) * ti.size := Nat.mul_le_mul_right _ (by omega)
          omega
      split at hs
      · rename_i hmn
        injection hs with hs; subst hs
        refine key _ (by simp) (by simp; omega) (fun hk => ?_)
        simp only [Bool.and_eq_true, beq_iff_eq] at hk
        simp only [Option.getD_none]
        rw [b2 hk.1, hk.2]
      · rename_i m' hmn
        split at hs
        case isFalse => simp at hs
        injection hs with hs; subst hs
        refine key _ (by simp; omega) (by simp; omega) (fun hk => ?_)
        simp only [beq_iff_eq] at hk
        simp [hk]
  · split at hs
    case h_2 => simp at hs
    rename_i q1 q2 q3
    injection hs with hs; subst hs
    cases hv.dr
    have := run none 0 0 (Nat.le_refl _) (by omega) (by omega) (by omega)
    refine gives_dat hr this ?_
    rw [q1, q2, q3]
    exact .nils
  · split at hs
    case h_2 => simp at hs
    rename_i q1 q2 q3
    injection hs with hs; subst hs
    cases hv.dr
    rename_i a
    have := run a 0 0 (Nat.le_refl _) (by omega) (by omega) (by omega)
    refine gives_dat hr this ?_
    rw [q1, q2, q3]
    exact .emp _
  · simp at hs

/-! ### appending -/
/-- Cells that hold rows. -/
structure CellsR (w : World) (S : Sta) (z : Nat) (ys : List (List D)) (c : Array Value) : Prop where
  size : c.size = ys.length * z
  wide : ∀ k, k < ys.length → (ys.getD k []).length = z
  ones : ∀ k, k < ys.length * z → one (c.getD k undef) = true
  cell : ∀ k, k < ys.length → ∀ j, j < z → DR w S ((ys.getD k []).getD j .nilp) (c.getD (k * z + j) undef)

theorem CellsR.mono {w' : World} {S' : Sta} (hS : ∀ g, S g → S' g) (hw : ∀ g, S g → w'.heap[g]? = w.heap[g]?) {z : Nat} {ys : List (List D)} {c : Array Value} (h : CellsR w S z ys c) : CellsR w' S' z ys c :=
  ⟨h.size, h.wide, h.ones, fun k hk j hj => (h.cell k hk j hj).mono hS hw⟩

theorem CellsR.append {z : Nat} {xs ys : List (List D)} {c d : Array Value} (h1 : CellsR w S z xs c) (h2 : CellsR w S z ys d) : CellsR w S z (xs ++ ys) (c ++ d) := by
  have hg : ∀ k, (c ++ d).getD k undef = if k < xs.length * z then c.getD k undef else d.getD (k - xs.length * z) undef := by
    intro k
    rw [← toList_getD, ← toList_getD, ← toList_getD]
    simp only [Array.toList_append, List.getD_eq_getElem?_getD]
    have hl : c.toList.length = xs.length * z := by simp [h1.size]
    by_cases hk : k < xs.length * z
    · rw [if_pos hk, List.getElem?_append_left (by omega)]
    · rw [if_neg hk, List.getElem?_append_right (by omega), hl]
  have hx : ∀ k, (xs ++ ys).getD k [] = if k < xs.length then xs.getD k [] else ys.getD (k - xs.length) [] := by
    intro k
    simp only [List.getD_eq_getElem?_getD]
    by_cases hk : k < xs.length
    · rw [if_pos hk, List.getElem?_append_left hk]
    · rw [if_neg hk, List.getElem?_append_right (by omega)]
  refine ⟨by simp [h1.size, h2.size, Nat.add_mul], fun k hk => ?_, fun k hk => ?_, fun k hk j hj => ?_⟩
  · rw [hx]
    simp only [List.length_append] at hk
    split
    · exact h1.wide k (by assumption)
    · exact h2.wide _ (by omega)
  · rw [hg]
    simp only [List.length_append, Nat.add_mul] at hk
    split
    · exact h1.ones k (by assumption)
    · exact h2.ones _ (by omega)
  · simp only [List.length_append] at hk
    rw [hg, hx]
    by_cases hkx : k < xs.length
    · have := mul_lt (c := j) (m := 1) (z := z) hkx (by omega)
      rw [if_pos hkx, if_pos (by omega)]
      exact h1.cell k hkx j hj
    · have : xs.length * z ≤ k * z := Nat.mul_le_mul_right z (by omega)
      rw [if_neg hkx, if_neg (by omega)]
      have := h2.cell (k - xs.length) (by omega) j hj
      rwa [Nat.sub_mul, show k * z - xs.length * z + j = k * z + j - xs.length * z from by omega] at this

theorem cells_row {c : Array Value} {β z : Nat} {xs : List (List D)} (hrow : RowR w S c β z xs) {o n : Nat} (hn : o + n ≤ xs.length) {cs : List Value} (hl : cs.length = n * z)
    (hc : ∀ j, j < n * z → cs.getD j undef = c.getD (β + (o * z + j)) undef) : CellsR w S z ((xs.drop o).take n) cs.toArray := by
  obtain ⟨e1, e2⟩ := rowdr_sub hn
  have hmul : o * z + n * z ≤ xs.length * z := by rw [← Nat.add_mul]; exact Nat.mul_le_mul_right z hn
  refine ⟨by simp [hl, e1], fun k hk => ?_, fun k hk => ?_, fun k hk j hj => ?_⟩
  · rw [e1] at hk; rw [e2 k hk]; exact hrow.wide _ (by omega)
  · rw [e1] at hk; rw [getD_arr, hc k hk]; exact hrow.ones _ (by omega)
  · rw [e1] at hk
    have hm := mul_lt (c := j) (m := 1) (z := z) hk (by omega)
    rw [e2 k hk, getD_arr, hc _ (by omega), show β + (o * z + (k * z + j)) = β + ((o + k) * z + j) from by rw [Nat.add_mul]; omega]
    exact hrow.cell _ (by omega) j hj

/-- Cells of an own slice. -/
theorem own_cells {j z o n : Nat} {k : Bool} {xs : List (List D)} {a : Option Addr} {cap : Nat} (hr : Rel w S ρ H) (hb : H.getD j .dead = .arr z xs ∨ H.getD j .dead = .frz z xs)
    (hv : VR w S ρ (.own j z o n k) (.slice a n cap)) (hn : o + n ≤ xs.length) : ∃ cs : List Value, (Builtin.firstCells z n (.slice a n cap)).run P w = .ok cs.toArray w ∧ CellsR w S z ((xs.drop o).take n) cs.toArray := by
  cases hv with
  | own _ _ _ _ _ _ _ b1 b2 b3 =>
    by_cases h0 : 0 < cap
    · obtain ⟨g, β, e1, rfl, e3⟩ := b3 h0
      have hrow : ∃ c e f, w.heap[g]? = some (.cells c e f) ∧ RowR w S c β z xs := by
        have hbi := hr.blk j
        rcases hb with hb | hb <;> rw [hb] at hbi
        · obtain ⟨_, c, e, f, h1, h2⟩ := hbi.2 g β e1; exact ⟨c, e, f, h1.1, h2⟩
        · obtain ⟨_, c, e, f, h1, h2⟩ := hbi.2 g β e1; exact ⟨c, e, f, h1, h2⟩
      obtain ⟨c, e, f, h1, h2⟩ := hrow
      have hfits := h2.fits
      have hmul : o * z + n * z ≤ xs.length * z := by rw [← Nat.add_mul]; exact Nat.mul_le_mul_right z hn
      obtain ⟨cs, l1, l2⟩ := ex_list (n * z) (fun q => c.getD (β + (o * z + q)) undef) undef
      refine ⟨cs, ?_, cells_row h2 hn l1 l2⟩
      simp only [Builtin.firstCells]
      rw [← l1]
      refine run_loadCells_list w _ cs (list_of_getD l1 fun q hq => ?_)
      rw [addr_add, l2 q hq, cell_at h1 (by omega), Nat.add_assoc]
    · have hn0 : n = 0 := by omega
      subst hn0
      refine ⟨[], ?_, ?_⟩
      · cases a with
        | none => rfl
        | some a => simp [Builtin.firstCells, loadCells, loadCellsFrom]
      · have : (xs.drop o).take 0 = [] := by simp
        rw [this]
        exact ⟨by simp, fun k hk => by simp at hk, fun k hk => by simp at hk, fun k hk => by simp at hk⟩

theorem list_cells {z : Nat} {xs : List (List D)} {a : Option Addr} {n cap : Nat} (h : DR w S (.list z xs) (.slice a n cap)) : n = xs.length ∧ ∃ cs : List Value, (Builtin.firstCells z n (.slice a n cap)).run P w = .ok cs.toArray w ∧ CellsR w S z xs cs.toArray := by
  cases h with
  | list _ _ _ _ _ b o c hn h1 h2 h3 h4 h5 =>
    subst hn
    refine ⟨rfl, ?_⟩
    by_cases h0 : 0 < xs.length
    · obtain ⟨rfl, hb⟩ := h2 h0
      obtain ⟨cs, l1, l2⟩ := ex_list (xs.length * z) c undef
      refine ⟨cs, ?_, ⟨by simp [l1], h4, fun k hk => by rw [getD_arr, l2 k hk]; exact (h3 k hk).2, fun k hk j hj => ?_⟩⟩
      · simp only [Builtin.firstCells]
        rw [← l1]
        refine run_loadCells_list w _ cs (list_of_getD l1 fun q hq => ?_)
        rw [addr_add, l2 q hq]; exact (h3 q hq).1
      · have := mul_lt (c := j) (m := 1) (z := z) hk (by omega)
        rw [getD_arr, l2 _ (by omega)]; exact h5 k hk j hj
    · have : xs = [] := List.eq_nil_of_length_eq_zero (by omega)
      subst this
      refine ⟨[], ?_, ⟨by simp, fun k hk => by simp at hk, fun k hk => by simp at hk, fun k hk => by simp at hk⟩⟩
      cases a with
      | none => rfl
      | some a => simp [Builtin.firstCells, loadCells, loadCellsFrom]

/-- What is appended. -/
theorem tailA_sound (hr : Rel w S ρ H) {z : Nat} {y : AV} {v : Value} {ys : List (List D)} (hv : VR w S ρ y v) (h : tailA H z y = some ys) :
    (Builtin.lenOf v).run P w = .ok ys.length w ∧ ∃ cs : List Value, (Builtin.firstCells z ys.length v).run P w = .ok cs.toArray w ∧ CellsR w S z ys cs.toArray := by
  have nil : CellsR w S z [] (#[] : Array Value) := ⟨by simp, fun k hk => by simp at hk, fun k hk => by simp at hk, fun k hk => by simp at hk⟩
  unfold tailA at h
  split at h
  · rename_i z' xs
    split at h
    case isFalse => simp at h
    rename_i hz; subst hz
    injection h with h; subst h
    have hd := hv.dr
    have : ∃ a n cap, v = .slice a n cap := by cases hd; exact ⟨_, _, _, rfl⟩
    obtain ⟨a, n, cap, rfl⟩ := this
    obtain ⟨rfl, h2⟩ := list_cells (P := P) hd
    exact ⟨rfl, h2⟩
  · injection h with h; subst h; cases hv.dr; exact ⟨rfl, [], rfl, nil⟩
  · injection h with h; subst h; cases hv.dr; rename_i a
    refine ⟨rfl, [], ?_, nil⟩
    cases a with
    | none => rfl
    | some a => simp [Builtin.firstCells, loadCells, loadCellsFrom]
  · rename_i s
    split at h
    case isFalse => simp at h
    rename_i hz; subst hz
    injection h with h; subst h
    cases hv.dr
    refine ⟨by simp [Builtin.lenOf, ByteArray.size], s.map fun b => .int .u8 b.toNat, ?_, ⟨by simp, fun k hk => ?_, fun k hk => ?_, fun k hk j hj => ?_⟩⟩
    · simp only [Builtin.firstCells, Sem.run_pure, List.length_map]
      congr 1
      have : (ByteArray.mk s.toArray).extract 0 s.length = ByteArray.mk s.toArray := by
        apply ByteArray.ext
        simp
      rw [this]
      simp
    · simp at hk; rw [getD_map' _ _ _ (0 : UInt8) _ hk]; rfl
    · simp at hk; rw [getD_arr, getD_map' _ _ _ (0 : UInt8) _ hk]; rfl
    · simp at hk
      have : j = 0 := by omega
      subst this
      rw [getD_arr, Nat.mul_one, Nat.add_zero, getD_map' _ _ _ (0 : UInt8) _ hk, getD_map' _ _ _ (0 : UInt8) _ hk]
      exact .int ..
  · rename_i j z' o n k
    have key : ∀ z'' xs, (H.getD j .dead = .arr z'' xs ∨ H.getD j .dead = .frz z'' xs) → (if z' = z ∧ z'' = z ∧ o + n ≤ xs.length then some ((xs.drop o).take n) else none) = some ys →
        (Builtin.lenOf v).run P w = .ok ys.length w ∧ ∃ cs : List Value, (Builtin.firstCells z ys.length v).run P w = .ok cs.toArray w ∧ CellsR w S z ys cs.toArray := by
      intro z'' xs hb q
      split at q
      case isFalse => simp at q
      rename_i hc
      obtain ⟨rfl, rfl, hn⟩ := hc
      injection q with q; subst q
      have : ∃ a cap, v = .slice a n cap := by cases hv; exact ⟨_, _, rfl⟩
      obtain ⟨a, cap, rfl⟩ := this
      rw [(rowdr_sub hn).1]
      exact ⟨rfl, own_cells hr hb hv hn⟩
    split at h
    · exact key _ _ (.inl (by assumption)) h
    · exact key _ _ (.inr (by assumption)) h
    · simp at h
  · simp at h

theorem grow_le : ∀ (r n c : Nat), Builtin.growBy n r c ≤ max c (n + (n + 768) / 4)
  | 0, n, c => by simp only [Builtin.growBy]; omega
  | r + 1, n, c => by
    simp only [Builtin.growBy]
    split
    · omega
    · have := grow_le r n (c + (c + 768) / 4)
      omega
theorem next_le {need old : Nat} (h : old < need) : Builtin.nextslicecap need old ≤ 2 * need := by
  unfold Builtin.nextslicecap
  split
  · omega
  · split
    · omega
    · have := grow_le 4 need old
      omega

theorem zeroCells_size (z : Array Value) (n : Nat) : (Builtin.zeroCells z n).size = n * z.size := by simp [Builtin.zeroCells]

/-- The run of an append that makes a new row. -/
theorem run_append_new {ts : Array TypeId} {t0 t1 t e : TypeId} {d1 : TypeDesc} {ti : TypeInfo} {zs : List D} (h0 : ts[0]? = some t0) (h1 : ts[1]? = some t1) (hu : P.underlying t0 = some (.slice e))
    (hu1 : P.underlying t1 = some d1) (hn : cO.noInt d1 = true) (hi : P.info? e = some ti) (hz : zerosOf P e = some zs) (hb : 0 < ti.bytes) {a : Option Addr} {n cap : Nat} {y : Value} {m : Nat} {old new : List Value}
    (hy : (Builtin.lenOf y).run P w = .ok m w) (hold : (Builtin.firstCells ti.size n (.slice a n cap)).run P w.drew = .ok old.toArray w.drew) (hnew : (Builtin.firstCells ti.size m y).run P w.drew = .ok new.toArray w.drew)
    (hlt : cap < n + m) (hroom : (n + m) * ti.bytes ≤ 70368744177664) (hol : old.length = n * ti.size) (hnl : new.length = m * ti.size) :
    ∃ (c : Array Value) (cap' : Nat), (Builtin.append_ ts t #[.slice a n cap, y]).run P w = .ok (.slice (some ⟨w.heap.size, 0, none⟩) (n + m) cap') (w.drew.alloc (.cells c e (0, 0))) ∧
      c.size = cap' * ti.size ∧ n + m ≤ cap' ∧ ∀ k, k < (n + m) * ti.size → c.getD k undef = (old ++ new).getD k undef := by
  obtain ⟨i, zv, hi', hzv, hzl, hza⟩ := zerosOf_spec hz
  rw [hi] at hi'; injection hi' with hi'; subst hi'
  obtain ⟨zc1, _, _⟩ := cells_of_allO (w := w) (S := fun _ => False) hza
  have hnext : ¬ Builtin.nextslicecap (n + m) cap * ti.bytes > 2 ^ 48 := by
    have h1 := next_le hlt
    have h2 : Builtin.nextslicecap (n + m) cap * ti.bytes ≤ 2 * (n + m) * ti.bytes := Nat.mul_le_mul_right _ h1
    rw [Nat.mul_assoc] at h2
    omega
  have hni : ¬ ((n + m : Nat) : Int) > IntKind.i64.max := by
    have h1 : n + m ≤ (n + m) * ti.bytes := Nat.le_mul_of_pos_right _ hb
    have h3 : IntKind.i64.max = 9223372036854775807 := by decide
    rw [h3]; omega
  have hle : ¬ n + m ≤ cap := by omega
  have hbz : ti.bytes ≠ 0 := by omega
  let q := Question.appendCap (n + m) cap e
  let cap' := q.cut (w.tape w.drawn q)
  have hcap : n + m ≤ cap' := by
    show n + m ≤ Question.cut _ _
    simp only [q, Question.cut]; omega
  have hch : (choose (Question.appendCap (n + m) cap e)).run P w = .ok cap' w.drew := by
    simp [choose, Sem.run, Question.forced, cap', q]
  refine ⟨(old ++ new).toArray ++ Builtin.zeroCells zv.cells (cap' - (n + m)), cap', ?_, ?_, hcap, ?_⟩
  · have hask : (askRoom (cap' * ti.bytes)).run P w.drew = .ok () w.drew := by
      unfold askRoom; split <;> rfl
    have hni' : ¬ (IntKind.i64.max < (n : Int) + (m : Int)) := by
      have : ((n + m : Nat) : Int) = (n : Int) + m := by omega
      omega
    cases d1 <;> first
      | (simp [cO.noInt] at hn; done)
      | (simp only [Builtin.append_, h0, h1, List.getElem?_toArray, List.getElem?_cons_zero, List.getElem?_cons_succ, Sem.run_bind, run_underlying hu, run_underlying hu1, Result.andThen_ok, Sem.run_pure, run_sizeOf hi, Bool.false_eq_true, if_false, hy, hle,
          run_typeInfo hi, hbz, or_self, and_false, Sem.run_ite, hnext, hch, hask, hold, hnew, Bool.not_false, if_true, run_zeroValue hi hzv]
         simp only [newRow, newObj, Sem.run_bind, Sem.run_pure, Sem.run, Result.andThen_ok, World.size_drew, List.append_toArray]
         rfl)
  · simp [zeroCells_size, zc1, hzl, hol, hnl]
    rw [← Nat.add_mul, ← Nat.add_mul]
    congr 1; omega
  · intro k hk
    rw [← toList_getD]
    simp only [Array.toList_append, List.getD_eq_getElem?_getD]
    rw [List.getElem?_append_left (by simp [hol, hnl, ← Nat.add_mul]; exact hk)]
end
end Go.Ev
