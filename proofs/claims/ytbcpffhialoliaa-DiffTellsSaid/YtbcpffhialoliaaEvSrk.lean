/- From the shelf's contract of slices.SortFunc to what the native asks. Own work. A native that puts the rows of an own slice into the order of their keys (slices.SortFunc at a closure without bindings), the keys all different; the rows may hold slices and texts. Own work. -/
import Derived.Shelf.SlSortCmp.WholeK
import Derived.Shelf.SlSortCmp.NoneTotal
import Derived.Test.YtbcpffhialoliaaEvNatF
namespace Go.Ev
open Go Go.Proofs Go.RowKit Go.Sort
set_option linter.unusedVariables false
set_option linter.unusedSimpArgs false
section
variable {P : Program} {α : Type} [Inhabited α]
def srtOf (cf : α → α → Int) (l : List α) : List α := (pdq (ltOf cf) l.toArray 0 l.length (Lib.bitLen l.length) true true).toList
theorem srtOf_spec (cf : α → α → Int) (hO : SWO (ltOf cf)) (l : List α) : PermIn 0 l.length l.toArray (pdq (ltOf cf) l.toArray 0 l.length (Lib.bitLen l.length) true true) ∧ SortedIn (ltOf cf) 0 l.length (pdq (ltOf cf) l.toArray 0 l.length (Lib.bitLen l.length) true true) := by
  have h := pdq_sorts (ltOf cf) hO l.toArray 0 l.length (Lib.bitLen l.length) true true (Nat.zero_le _) (by simp) (Or.inl rfl)
  exact ⟨h.1, h.2⟩
theorem srtOf_len (cf : α → α → Int) (hO : SWO (ltOf cf)) (l : List α) : (srtOf cf l).length = l.length := by
  have := (srtOf_spec cf hO l).1.1
  simpa [srtOf] using this
theorem srtOf_perm (cf : α → α → Int) (hO : SWO (ltOf cf)) (l : List α) : (srtOf cf l).Perm l := by
  obtain ⟨h1, h2, h3⟩ := (srtOf_spec cf hO l).1
  have e1 : ∀ d : Array α, d.size = l.length → (d.extract 0 l.length).toList = d.toList := fun d hd => by rw [← hd]; simp
  rw [e1 _ (by simpa using h1), e1 _ (by simp)] at h3
  simpa [srtOf] using h3
theorem srtOf_sorted (cf : α → α → Int) (hO : SWO (ltOf cf)) (l : List α) : (srtOf cf l).Pairwise fun x y => ltOf cf y x = false := by
  have hs := (srtOf_spec cf hO l).2
  have hl := srtOf_len cf hO l
  rw [List.pairwise_iff_getElem]
  intro i j hi hj hij
  have := hs i j (Nat.zero_le _) hij (by omega)
  unfold srtOf at hi hj ⊢
  rw [Array.length_toList] at hi hj
  rw [getElem!_pos (pdq (ltOf cf) l.toArray 0 l.length (Lib.bitLen l.length) true true) _ hj, getElem!_pos (pdq (ltOf cf) l.toArray 0 l.length (Lib.bitLen l.length) true true) _ hi] at this
  simpa using this
theorem flat_eq {E : Enc α} (hE : EncOk E) (d : Array α) (t : Nat) (ht : t < d.size * E.z) : (Go.Sort.flatK E.cells E.z d)[t]! = (cellsE E d.toList).getD t undef := by
  have hzp : 0 < E.z := by
    rcases Nat.eq_zero_or_pos E.z with h0 | h0
    · rw [h0] at ht; simp at ht
    · exact h0
  rw [get_flatK _ _ _ _ ht]
  have hj := Nat.mod_lt t hzp
  have hq : t / E.z < d.size := Nat.div_lt_of_lt_mul (by rw [Nat.mul_comm]; exact ht)
  have hc := cellsE_getD hE d.toList (t / E.z) (t % E.z) (by simpa using hq) hj
  have e : t / E.z * E.z + t % E.z = t := by rw [Nat.mul_comm]; exact Nat.div_add_mod t E.z
  rw [e] at hc
  rw [hc, getElem!_pos d _ hq]
  have hlen := hE.clen d[t / E.z]
  rw [getElem!_pos _ _ (by rw [hlen]; exact hj)]
  simp [List.getD_eq_getElem?_getD, hlen, hj]
theorem sorts_row {E : Enc α} (hE : EncOk E) {cf : α → α → Int} (hO : SWO (ltOf cf)) {k g : FuncId}
    (hnone : ∀ (p : Option Addr) (cap : Nat) (fv : Value) (w : World), Calls P k #[.slice p 0 cap, fv] w fun e w' => e = .returned (.tuple #[]) ∧ w' = w)
    (hsort : ∀ (blk off cap : Nat) (d : Array α) (w : World), HoldsK E.cells E.z w blk off d → blk < w.heap.size → d.size < 4611686018427387904 → Calls P k #[.slice (some ⟨blk, off, none⟩) d.size cap, .func (.func g) #[] #[]] w fun e w' =>
      e = .returned (.tuple #[]) ∧ ∃ n os, w' = sortWorldK E.cells E.z w blk off n (pdq (ltOf cf) d 0 d.size (Lib.bitLen d.size) true true) os) : SortsRow P E (srtOf cf) k g := by
  refine ⟨fun a cap w => hnone a cap _ w, fun w blk off cap l c e fz hpos hmax hb hth hfit hcells => ?_⟩
  have hblk : blk < w.heap.size := (Array.getElem?_eq_some_iff.1 hb).1
  have hH : HoldsK E.cells E.z w blk off l.toArray := fun j hj => by
    rw [size_flatK, List.size_toArray] at hj
    have ho : off + j < c.size := by omega
    refine ⟨?_, not_frozen hb hth ho⟩
    rw [cell_at hb ho, hcells j hj]
    show _ = some (id _)
    rw [id, flat_eq hE l.toArray j (by simpa using hj)]
  have h := hsort blk off cap l.toArray w hH hblk (by simp; omega)
  simp only [List.size_toArray] at h
  refine h.mono fun ex w' ⟨h1, n, os, h2⟩ => ⟨h1, ?_⟩
  subst h2
  have hds : (pdq (ltOf cf) l.toArray 0 l.length (Lib.bitLen l.length) true true).size = l.length := by
    have := (srtOf_spec cf hO l).1.1
    simpa using this
  have hvl : (cellsE E (srtOf cf l)).length = l.length * E.z := by rw [cellsE_len hE, srtOf_len cf hO]
  have hput : Go.Sort.putCells id off (Go.Sort.flatK E.cells E.z (pdq (ltOf cf) l.toArray 0 l.length (Lib.bitLen l.length) true true)) c = putV c off (cellsE E (srtOf cf l)) := by
    have hg := putV_getD (cellsE E (srtOf cf l)) c off (by rw [hvl]; exact hfit)
    apply Array.ext
    · simp [Go.Sort.putCells, putV_size]
    · intro i h1 h2
      have hi : i < c.size := by simpa [Go.Sort.putCells] using h1
      have e2 : (putV c off (cellsE E (srtOf cf l)))[i] = (putV c off (cellsE E (srtOf cf l))).getD i undef := by simp [Array.getD, h2]
      rw [e2, hg i, hvl]
      simp only [Go.Sort.putCells, Array.getElem_mapIdx, size_flatK, hds]
      by_cases hin : off ≤ i ∧ i < off + l.length * E.z
      · rw [if_pos hin, if_pos hin, id, flat_eq hE _ _ (by rw [hds]; omega)]
        rfl
      · rw [if_neg hin, if_neg hin]; simp [Array.getD, hi]
  refine ⟨rfl, rfl, rfl, ?_, fun q hq => ?_⟩
  · rw [setBlk_size]
    show w.heap.size ≤ (sortWorldK _ _ _ _ _ _ _ _).heap.size
    unfold sortWorldK
    rw [size_grow]
    show w.heap.size ≤ (w.heap.modify blk _).size + os.size
    rw [Array.size_modify]; omega
  · unfold sortWorldK
    have hsz : q < (putRowK E.cells E.z (Sort.ahead w n) blk off (pdq (ltOf cf) l.toArray 0 l.length (Lib.bitLen l.length) true true)).heap.size := by
      show q < (w.heap.modify blk _).size
      rw [Array.size_modify]; exact hq
    rw [heap_grow_old _ _ hsz]
    show (w.heap.modify blk _)[q]? = _
    rw [Array.getElem?_modify]
    by_cases hqb : blk = q
    · subst hqb
      rw [if_pos rfl, hb, setBlk_same hb]
      show some (Obj.cells (Go.Sort.putCells id off _ c) e fz) = _
      rw [hput]
    · rw [if_neg hqb, setBlk_other (fun h => hqb h.symm)]
end
end Go.Ev
namespace Go.Ev
open Go Go.Proofs Go.RowKit Go.Sort
set_option linter.unusedVariables false
set_option linter.unusedSimpArgs false
/-! ### sorting by a key -/
section
variable {β : Type}
def insK (f : β → Int) (x : β) : List β → List β
  | [] => [x]
  | y :: l => if f x < f y then x :: y :: l else y :: insK f x l
def srtK (f : β → Int) : List β → List β
  | [] => []
  | x :: l => insK f x (srtK f l)
theorem insK_perm (f : β → Int) (x : β) : ∀ l : List β, (insK f x l).Perm (x :: l)
  | [] => List.Perm.refl _
  | y :: l => by
    unfold insK
    split
    · exact List.Perm.refl _
    · exact ((insK_perm f x l).cons y).trans (List.Perm.swap x y l)
theorem srtK_perm (f : β → Int) : ∀ l : List β, (srtK f l).Perm l
  | [] => List.Perm.refl _
  | x :: l => (insK_perm f x _).trans ((srtK_perm f l).cons x)
theorem srtK_len (f : β → Int) (l : List β) : (srtK f l).length = l.length := (srtK_perm f l).length_eq
theorem insK_map {γ : Type} (f : γ → Int) (g : β → γ) (x : β) : ∀ l : List β, insK f (g x) (l.map g) = (insK (fun b => f (g b)) x l).map g
  | [] => rfl
  | y :: l => by
    simp only [List.map_cons, insK]
    split
    · simp
    · rw [insK_map f g x l]; simp
theorem srtK_map {γ : Type} (f : γ → Int) (g : β → γ) : ∀ l : List β, srtK f (l.map g) = (srtK (fun b => f (g b)) l).map g
  | [] => rfl
  | x :: l => by simp only [List.map_cons, srtK]; rw [srtK_map f g l, insK_map]
theorem insK_congr {f g : β → Int} (x : β) : ∀ l : List β, f x = g x → (∀ y ∈ l, f y = g y) → insK f x l = insK g x l
  | [], _, _ => rfl
  | y :: l, hx, h => by
    unfold insK
    rw [hx, h y (List.mem_cons_self ..), insK_congr x l hx fun z hz => h z (List.mem_cons_of_mem _ hz)]
theorem srtK_congr {f g : β → Int} : ∀ l : List β, (∀ y ∈ l, f y = g y) → srtK f l = srtK g l
  | [], _ => rfl
  | x :: l, h => by
    unfold srtK
    rw [srtK_congr l fun z hz => h z (List.mem_cons_of_mem _ hz)]
    exact insK_congr x _ (h x (List.mem_cons_self ..)) fun y hy => h y (List.mem_cons_of_mem _ ((srtK_perm g l).mem_iff.1 hy))
theorem insK_sorted (f : β → Int) (x : β) : ∀ l : List β, l.Pairwise (fun a b => f a ≤ f b) → (insK f x l).Pairwise (fun a b => f a ≤ f b)
  | [], _ => by simp [insK]
  | y :: l, h => by
    obtain ⟨h1, h2⟩ := List.pairwise_cons.1 h
    unfold insK
    split
    · rename_i hx
      refine List.pairwise_cons.2 ⟨fun a ha => ?_, h⟩
      rcases List.mem_cons.1 ha with rfl | ha
      · omega
      · have := h1 a ha; omega
    · rename_i hx
      refine List.pairwise_cons.2 ⟨fun a ha => ?_, insK_sorted f x l h2⟩
      rcases List.mem_cons.1 ((insK_perm f x l).mem_iff.1 ha) with rfl | ha
      · omega
      · exact h1 a ha
theorem srtK_sorted (f : β → Int) : ∀ l : List β, (srtK f l).Pairwise (fun a b => f a ≤ f b)
  | [] => List.Pairwise.nil
  | x :: l => insK_sorted f x _ (srtK_sorted f l)
/-- One sorted order only, where the keys are all different. -/
theorem sorted_one (f : β → Int) : ∀ (l m : List β), l.Perm m → (l.map f).Nodup → l.Pairwise (fun a b => f a ≤ f b) → m.Pairwise (fun a b => f a ≤ f b) → l = m
  | [], m, hp, _, _, _ => (List.nil_perm.1 hp).symm
  | a :: l, [], hp, _, _, _ => absurd (List.perm_nil.1 hp) (by simp)
  | a :: l, b :: m, hp, hn, h1, h2 => by
    obtain ⟨p1, p2⟩ := List.pairwise_cons.1 h1
    obtain ⟨q1, q2⟩ := List.pairwise_cons.1 h2
    have ha : a ∈ b :: m := hp.mem_iff.1 (List.mem_cons_self ..)
    have hb : b ∈ a :: l := hp.mem_iff.2 (List.mem_cons_self ..)
    have hn' := hn
    rw [List.map_cons] at hn'
    obtain ⟨n1, n2⟩ := List.nodup_cons.1 hn'
    have e : a = b := by
      rcases List.mem_cons.1 ha with h | ha
      · exact h
      · rcases List.mem_cons.1 hb with h | hb
        · exact h.symm
        · have k1 := p1 b hb
          have k2 := q1 a ha
          have : f a = f b := by omega
          exact absurd (List.mem_map.2 ⟨b, hb, this.symm⟩) n1
    subst e
    rw [sorted_one f l m (List.Perm.cons_inv hp) n2 p2 q2]
end
/-! ### the native -/
def keysD (kd : List D → Option Int) : List (List D) → Option (List Int)
  | [] => some []
  | r :: rs => match kd r, keysD kd rs with
    | some n, some ns => some (n :: ns)
    | _, _ => none
theorem keysD_of {kd : List D → Option Int} : ∀ {rs : List (List D)} {ns : List Int}, keysD kd rs = some ns → ns = rs.map (fun r => (kd r).getD 0) ∧ ∀ r ∈ rs, ∃ n, kd r = some n
  | [], ns, h => by simp [keysD] at h; subst h; exact ⟨rfl, fun r hr => by simp at hr⟩
  | r :: rs, ns, h => by
    unfold keysD at h
    split at h
    · rename_i n ns' h1 h2
      injection h with h; subst h
      obtain ⟨e1, e2⟩ := keysD_of h2
      refine ⟨by rw [List.map_cons, h1, ← e1]; rfl, fun q hq => ?_⟩
      rcases List.mem_cons.1 hq with rfl | hq
      · exact ⟨n, h1⟩
      · exact e2 q hq
    · simp at h
def natSK (z : Nat) (kd : List D → Option Int) (k g : FuncId) : Callee := fun f args H =>
  if f = k then
    match args with
    | [.own i z' o n _, .clo (.func g') [] []] => if g' = g ∧ z' = z then (match H.getD i .dead with
      | .arr z'' xs => if z'' = z ∧ o + n ≤ xs.length ∧ n ≤ 1000000 then (match keysD kd ((xs.drop o).take n) with
        | some ns => if ns.Nodup then some (.tup [], H.set i (.arr z'' (xs.take o ++ srtK (fun r => (kd r).getD 0) ((xs.drop o).take n) ++ xs.drop (o + n)))) else none
        | none => none) else none
      | _ => none) else none
    | [.d .nils, .clo (.func g') [] []] => if g' = g then some (.tup [], H) else none
    | _ => none
  else none
theorem natSK_eq (z : Nat) (kd : List D → Option Int) (k g : FuncId) {i o n : Nat} {b : Bool} {H : Heap} {xs : List (List D)} {ns : List Int} (hb : H.getD i .dead = .arr z xs) (hn : o + n ≤ xs.length ∧ n ≤ 1000000) (hl : keysD kd ((xs.drop o).take n) = some ns) (hd : ns.Nodup) :
    natSK z kd k g k [.own i z o n b, .clo (.func g) [] []] H = some (.tup [], H.set i (.arr z (xs.take o ++ srtK (fun r => (kd r).getD 0) ((xs.drop o).take n) ++ xs.drop (o + n)))) := by
  simp only [natSK, if_true, and_self, hb, hn.1, hn.2, hl, hd]
/-- What the sort's contract must say, of rows as they lie. -/
structure SortsK (P : Program) (z : Nat) (kd : List D → Option Int) (kv : List Value → Int) (good : List Value → Prop) (k g : FuncId) : Prop where
  rel : ∀ (w : World) (S : Sta) (r : List D) (cs : List Value), r.length = z → cs.length = z → (∀ j, j < z → DR w S (r.getD j .nilp) (cs.getD j undef)) → ∀ n, kd r = some n → kv cs = n ∧ good cs
  non : ∀ (a : Option Addr) (cap : Nat) (w : World), Calls P k #[.slice a 0 cap, .func (.func g) #[] #[]] w fun e w' => e = .returned (.tuple #[]) ∧ w' = w
  srt : ∀ (l : List (List Value)), (∀ x ∈ l, x.length = z ∧ (∀ v ∈ x, one v = true) ∧ good x) → (l.map kv).Nodup → ∀ (w : World) (blk off cap : Nat) (c : Array Value) (e : TypeId) (fz : Nat × Nat), 0 < l.length → l.length ≤ 1000000 → w.heap[blk]? = some (.cells c e fz) → Thaw fz c.size → off + l.length * z ≤ c.size →
    (∀ t, t < l.length * z → c.getD (off + t) undef = l.flatten.getD t undef) →
    Calls P k #[.slice (some ⟨blk, off, none⟩) l.length cap, .func (.func g) #[] #[]] w fun ex w' => ex = .returned (.tuple #[]) ∧ Below w.heap.size (setBlk w blk (.cells (putV c off (srtK kv l).flatten) e fz)) w'
theorem flat_len {z : Nat} : ∀ {l : List (List Value)}, (∀ x ∈ l, x.length = z) → l.flatten.length = l.length * z
  | [], _ => by simp
  | x :: l, h => by
    rw [List.flatten_cons, List.length_append, flat_len fun y hy => h y (List.mem_cons_of_mem _ hy), h x (List.mem_cons_self ..), List.length_cons, Nat.add_mul, Nat.one_mul]; omega
theorem flat_getD {z : Nat} : ∀ {l : List (List Value)}, (∀ x ∈ l, x.length = z) → ∀ (q j : Nat) (hq : q < l.length), j < z → l.flatten.getD (q * z + j) undef = (l[q]).getD j undef
  | [], _, q, j, hq, _ => by simp at hq
  | x :: l, h, 0, j, hq, hj => by
    have hx := h x (List.mem_cons_self ..)
    rw [List.flatten_cons, Nat.zero_mul, Nat.zero_add]
    simp only [List.getD_eq_getElem?_getD, List.getElem_cons_zero]
    rw [List.getElem?_append_left (by omega)]
  | x :: l, h, q + 1, j, hq, hj => by
    have hx := h x (List.mem_cons_self ..)
    have ih := flat_getD (l := l) (fun y hy => h y (List.mem_cons_of_mem _ hy)) q j (by simpa using hq) hj
    rw [List.flatten_cons]
    simp only [List.getD_eq_getElem?_getD, List.getElem_cons_succ] at ih ⊢
    rw [List.getElem?_append_right (by rw [hx, Nat.add_mul, Nat.one_mul]; omega), hx, show (q + 1) * z + j - z = q * z + j by rw [Nat.add_mul, Nat.one_mul]; omega]
    exact ih
/-- The rows of cells that lie where rows of data are read. -/
def rowsAt (c : Array Value) (b z n : Nat) : List (List Value) := (List.range n).map fun q => (List.range z).map fun j => c.getD (b + (q * z + j)) undef
theorem rowsAt_len (c : Array Value) (b z n : Nat) : (rowsAt c b z n).length = n := by simp [rowsAt]
theorem rowsAt_get (c : Array Value) (b z n q : Nat) (hq : q < (rowsAt c b z n).length) : (rowsAt c b z n)[q] = (List.range z).map fun j => c.getD (b + (q * z + j)) undef := by simp [rowsAt]
theorem rowsAt_wide (c : Array Value) (b z n : Nat) : ∀ x ∈ rowsAt c b z n, x.length = z := fun x hx => by
  obtain ⟨q, _, rfl⟩ := List.mem_map.1 hx
  simp
theorem rowsAt_cell (c : Array Value) (b z n q j : Nat) (hq : q < (rowsAt c b z n).length) (hj : j < z) : ((rowsAt c b z n)[q]).getD j undef = c.getD (b + (q * z + j)) undef := by
  rw [rowsAt_get]
  simp [List.getD_eq_getElem?_getD, hj]
theorem rowsAt_flat (c : Array Value) (b z n t : Nat) (ht : t < n * z) : (rowsAt c b z n).flatten.getD t undef = c.getD (b + t) undef := by
  have hzp : 0 < z := by
    rcases Nat.eq_zero_or_pos z with h0 | h0
    · rw [h0] at ht; simp at ht
    · exact h0
  obtain ⟨q, j, rfl, hj⟩ : ∃ q j, t = q * z + j ∧ j < z := ⟨t / z, t % z, by rw [Nat.mul_comm]; exact (Nat.div_add_mod t z).symm, Nat.mod_lt t hzp⟩
  have hq : q < n := by
    rcases Nat.lt_or_ge q n with h1 | h1
    · exact h1
    · have := Nat.mul_le_mul_right z h1; omega
  have hq' : q < (rowsAt c b z n).length := by rw [rowsAt_len]; exact hq
  rw [flat_getD (rowsAt_wide c b z n) q j hq' hj, rowsAt_cell _ _ _ _ _ _ hq' hj]
/-- Rows of data beside rows of cells. -/
def PairR (w : World) (S : Sta) (z : Nat) (p : List D × List Value) : Prop := p.1.length = z ∧ p.2.length = z ∧ (∀ v ∈ p.2, one v = true) ∧ ∀ j, j < z → DR w S (p.1.getD j .nilp) (p.2.getD j undef)
theorem pairs_row {w : World} {S : Sta} {c : Array Value} {β z o n : Nat} {xs : List (List D)} (h : RowR w S c β z xs) (hn : o + n ≤ xs.length) : ∀ p ∈ (((xs.drop o).take n).zip (rowsAt c (β + o * z) z n)), PairR w S z p := by
  intro p hp
  obtain ⟨q, hq, rfl⟩ := List.getElem_of_mem hp
  have hq1 : q < ((xs.drop o).take n).length := by rw [List.length_zip] at hq; omega
  have hq2 : q < (rowsAt c (β + o * z) z n).length := by rw [List.length_zip] at hq; omega
  have hqn : q < n := by rw [rowsAt_len] at hq2; exact hq2
  rw [List.getElem_zip]
  have e1 : ((xs.drop o).take n)[q] = xs.getD (o + q) [] := by
    rw [List.getElem_take, List.getElem_drop]
    simp [List.getD_eq_getElem?_getD, show o + q < xs.length by omega]
  have hmul : (o + q + 1) * z ≤ xs.length * z := Nat.mul_le_mul_right z (by omega)
  have hpos : ∀ j, β + o * z + (q * z + j) = β + ((o + q) * z + j) := fun j => by rw [Nat.add_mul]; omega
  refine ⟨?_, rowsAt_wide _ _ _ _ _ (List.getElem_mem hq2), fun v hv => ?_, fun j hj => ?_⟩
  · show ((xs.drop o).take n)[q].length = z
    rw [e1]; exact h.wide _ (by omega)
  · obtain ⟨j, hj, rfl⟩ := List.getElem_of_mem hv
    have hj' : j < z := by rw [rowsAt_wide _ _ _ _ _ (List.getElem_mem hq2)] at hj; exact hj
    have e := rowsAt_cell c (β + o * z) z n q j hq2 hj'
    simp only [List.getD_eq_getElem?_getD, List.getElem?_eq_getElem hj, Option.getD_some] at e
    show one (rowsAt c (β + o * z) z n)[q][j] = true
    rw [e, hpos j]
    have := h.ones ((o + q) * z + j) (by rw [Nat.add_mul] at hmul; omega)
    simpa using this
  · show DR w S (((xs.drop o).take n)[q].getD j .nilp) _
    rw [e1, rowsAt_cell c (β + o * z) z n q j hq2 hj, hpos j]
    exact h.cell _ (by omega) j hj
theorem zip_fst {α β : Type} : ∀ {l : List α} {m : List β}, l.length = m.length → (l.zip m).map Prod.fst = l
  | [], [], _ => rfl
  | a :: l, b :: m, h => by simp only [List.zip_cons_cons, List.map_cons]; rw [zip_fst (by simpa using h)]
theorem zip_snd {α β : Type} : ∀ {l : List α} {m : List β}, l.length = m.length → (l.zip m).map Prod.snd = m
  | [], [], _ => rfl
  | a :: l, b :: m, h => by simp only [List.zip_cons_cons, List.map_cons]; rw [zip_snd (by simpa using h)]
theorem natSK_snd {P : Program} {z : Nat} {kd : List D → Option Int} {kv : List Value → Int} {good : List Value → Prop} {k g : FuncId} (hb : HasBody P k) (hs : SortsK P z kd kv good k g) : CallSnd P (natSK z kd k g) := by
  intro f args H r H' h
  unfold natSK at h
  split at h
  case isFalse => simp at h
  rename_i hf; subst hf
  refine ⟨hb, fun w S ρ cargs hr hl hv => ?_⟩
  split at h
  case h_3 => simp at h
  case h_2 =>
    rename_i g'
    split at h
    case isFalse => simp at h
    rename_i hg; subst hg
    simp only [Option.some.injEq, Prod.mk.injEq] at h
    obtain ⟨rfl, rfl⟩ := h
    have e0 := hv 0 (by simp)
    have e1 := hv 1 (by simp)
    simp only [List.getD_cons_zero] at e0
    have e1' : VR w S ρ (.clo (.func g') [] []) (cargs.getD 1 undef) := by simpa using e1
    have hc : cargs = #[.slice none 0 0, .func (.func g') #[] #[]] := by
      have a0 : cargs.getD 0 undef = .slice none 0 0 := by
        generalize cargs.getD 0 undef = v at e0
        cases e0.dr; rfl
      have a1 : cargs.getD 1 undef = .func (.func g') #[] #[] := by
        generalize cargs.getD 1 undef = v at e1'
        cases e1' with
        | clo _ _ _ va vb n1 n2 _ _ =>
          have : va = #[] := Array.eq_empty_of_size_eq_zero (by simpa using n1.symm)
          have : vb = #[] := Array.eq_empty_of_size_eq_zero (by simpa using n2.symm)
          subst va; subst vb; rfl
      have hsz : cargs.size = 2 := by simpa using hl.symm
      apply Array.ext
      · simp [hsz]
      · intro i h1 h2
        have : i = 0 ∨ i = 1 := by omega
        rcases this with rfl | rfl
        · rw [← a0]; simp [Array.getD, hsz]
        · rw [← a1]; simp [Array.getD, hsz]
    rw [hc]
    exact (hs.non none 0 w).mono fun e w' ⟨h1, h2⟩ => by subst h2; exact ⟨_, S, ρ, h1, Evo.refl hr, .tup [] #[] rfl fun i hi => by simp at hi⟩
  rename_i i z' o n b g'
  split at h
  case isFalse => simp at h
  rename_i hg
  obtain ⟨rfl, rfl⟩ := hg
  split at h
  case h_2 => simp at h
  rename_i z'' xs hbl
  split at h
  case isFalse => simp at h
  rename_i hcnd
  obtain ⟨rfl, hn1, hn2⟩ := hcnd
  split at h
  case h_2 => simp at h
  rename_i ns hdl
  split at h
  case isFalse => simp at h
  rename_i hnd
  simp only [Option.some.injEq, Prod.mk.injEq] at h
  obtain ⟨rfl, rfl⟩ := h
  obtain ⟨hns, hsome⟩ := keysD_of hdl
  have hll : ((xs.drop o).take n).length = n := by rw [List.length_take, List.length_drop]; omega
  have e0 := hv 0 (by simp)
  have e1 : VR w S ρ (.clo (.func g') [] []) (cargs.getD 1 undef) := by have := hv 1 (by simp); simpa using this
  simp only [List.getD_cons_zero] at e0
  have a1 : cargs.getD 1 undef = .func (.func g') #[] #[] := by
    generalize cargs.getD 1 undef = v at e1
    cases e1 with
    | clo _ _ _ va vb n1 n2 _ _ =>
      have : va = #[] := Array.eq_empty_of_size_eq_zero (by simpa using n1.symm)
      have : vb = #[] := Array.eq_empty_of_size_eq_zero (by simpa using n2.symm)
      subst va; subst vb; rfl
  have hsz : cargs.size = 2 := by simpa using hl.symm
  have hca : ∀ v0, cargs.getD 0 undef = v0 → cargs = #[v0, .func (.func g') #[] #[]] := fun v0 a0 => by
    apply Array.ext
    · simp [hsz]
    · intro i h1 h2
      have : i = 0 ∨ i = 1 := by omega
      rcases this with rfl | rfl
      · rw [← a0]; simp [Array.getD, hsz]
      · rw [← a1]; simp [Array.getD, hsz]
  generalize hv0 : cargs.getD 0 undef = v0 at e0
  have hc := hca v0 hv0
  cases e0 with
  | own _ _ _ _ _ a cap hn hk hp =>
    rw [hc]
    have hne : Blk.arr z'' xs ≠ .dead := fun h => by cases h
    by_cases hn0 : n = 0
    · subst hn0
      have e2 : xs.take o ++ srtK (fun r => (kd r).getD 0) ((xs.drop o).take 0) ++ xs.drop (o + 0) = xs := by rw [List.take_zero]; simp [srtK]
      rw [e2, set_self hbl hne]
      exact (hs.non a cap w).mono fun e w' ⟨h1, h2⟩ => by subst h2; exact ⟨_, S, ρ, h1, Evo.refl hr, .tup [] #[] rfl fun i hi => by simp at hi⟩
    · obtain ⟨g0, β, hp1, rfl, hp3⟩ := hp (by omega)
      have hbi := hr.blk i
      rw [hbl] at hbi
      obtain ⟨_, c0, e0', fz0, ⟨hh0, _⟩, hrow0⟩ := hbi.2 g0 β hp1
      have hpr := pairs_row hrow0 hn1
      have hrl : (rowsAt c0 (β + o * z'') z'' n).length = n := rowsAt_len ..
      have hL1 := zip_fst (l := (xs.drop o).take n) (m := rowsAt c0 (β + o * z'') z'' n) (by rw [hll, hrl])
      have hL2 := zip_snd (l := (xs.drop o).take n) (m := rowsAt c0 (β + o * z'') z'' n) (by rw [hll, hrl])
      generalize hZ : ((xs.drop o).take n).zip (rowsAt c0 (β + o * z'') z'' n) = Z at hpr hL1 hL2
      have hkv : ∀ p ∈ Z, ∃ m, kd p.1 = some m ∧ kv p.2 = m ∧ good p.2 := fun p hp => by
        obtain ⟨q1, q2, q3, q4⟩ := hpr p hp
        obtain ⟨m, hm⟩ := hsome p.1 (by rw [← hL1]; exact List.mem_map.2 ⟨p, hp, rfl⟩)
        obtain ⟨r1, r2⟩ := hs.rel w S p.1 p.2 q1 q2 q4 m hm
        exact ⟨m, hm, r1, r2⟩
      have hkk : ∀ p ∈ Z, (kd p.1).getD 0 = kv p.2 := fun p hp => by
        obtain ⟨m, h1, h2, _⟩ := hkv p hp
        rw [h1, h2]; rfl
      have hys : srtK (fun r => (kd r).getD 0) ((xs.drop o).take n) = (srtK (fun p => kv p.2) Z).map Prod.fst := by
        rw [← hL1, srtK_map, srtK_congr Z hkk]
      have hvs : srtK kv (rowsAt c0 (β + o * z'') z'' n) = (srtK (fun p => kv p.2) Z).map Prod.snd := by
        rw [← hL2, srtK_map]
      have hnd2 : ((rowsAt c0 (β + o * z'') z'' n).map kv).Nodup := by
        have e : (rowsAt c0 (β + o * z'') z'' n).map kv = ns := by
          rw [hns, ← hL2, ← hL1, List.map_map, List.map_map]
          exact List.map_congr_left fun p hp => (hkk p hp).symm
        rw [e]; exact hnd
      have hall : ∀ x ∈ rowsAt c0 (β + o * z'') z'' n, x.length = z'' ∧ (∀ v ∈ x, one v = true) ∧ good x := fun x hx => by
        rw [← hL2] at hx
        obtain ⟨p, hp, rfl⟩ := List.mem_map.1 hx
        obtain ⟨_, q2, q3, _⟩ := hpr p hp
        obtain ⟨_, _, _, q5⟩ := hkv p hp
        exact ⟨q2, q3, q5⟩
      have hZ' : ∀ p ∈ srtK (fun p => kv p.2) Z, PairR w S z'' p := fun p hp => hpr p ((srtK_perm _ Z).mem_iff.1 hp)
      have hZl : (srtK (fun p => kv p.2) Z).length = n := by
        rw [srtK_len, ← hZ, List.length_zip, hll, hrl, Nat.min_self]
      rw [hys]
      generalize hT : srtK (fun p => kv p.2) Z = T at hys hvs hZ' hZl ⊢
      have hwide : ∀ x ∈ T.map Prod.snd, x.length = z'' := fun x hx => by
        obtain ⟨p, hp, rfl⟩ := List.mem_map.1 hx
        exact (hZ' p hp).2.1
      have hsl : (T.map Prod.fst).length = n := by rw [List.length_map, hZl]
      have hgq : ∀ q (hq : q < T.length), (T.map Prod.fst).getD q [] = T[q].1 := fun q hq => by simp [List.getD_eq_getElem?_getD, hq]
      obtain ⟨c, e, fz, w1, w2, w3, hrow, hS, ev⟩ := evo_rows (ys := T.map Prod.fst) hr hbl hp1 (by rw [hsl]; exact hn1) (vs := (T.map Prod.snd).flatten) (by rw [flat_len hwide, List.length_map, List.length_map])
        (fun v hv => by
          obtain ⟨x, hx, hvx⟩ := List.mem_flatten.1 hv
          obtain ⟨p, hp, rfl⟩ := List.mem_map.1 hx
          exact (hZ' p hp).2.2.1 v hvx)
        (fun q hq => by rw [List.length_map] at hq; rw [hgq q hq]; exact (hZ' _ (List.getElem_mem hq)).1)
        (fun q hq j hj => by
          rw [List.length_map] at hq
          rw [hgq q hq, flat_getD hwide q j (by rw [List.length_map]; exact hq) hj, List.getElem_map]
          exact (hZ' _ (List.getElem_mem hq)).2.2.2 j hj)
      rw [hsl] at ev
      have hcc : c = c0 := by
        have := hh0.symm.trans w1
        injection this with this
        injection this with h1 _ _
        exact h1.symm
      subst hcc
      have hfit : β + o * z'' + (rowsAt c (β + o * z'') z'' n).length * z'' ≤ c.size := by
        rw [hrl]
        rw [flat_len hwide, List.length_map, hZl] at w3; exact w3
      have hcall := hs.srt (rowsAt c (β + o * z'') z'' n) hall hnd2 w g0 (β + o * z'') cap c e fz (by omega) (by omega) w1 w2 hfit (fun t ht => by
        rw [hrl] at ht
        exact (rowsAt_flat c _ z'' n t ht).symm)
      rw [hrl, hvs] at hcall
      refine hcall.mono fun ex w' ⟨h1, h2⟩ => ?_
      have hsz2 : (setBlk w g0 (.cells (putV c (β + o * z'') (T.map Prod.snd).flatten) e fz)).heap.size = w.heap.size := setBlk_size ..
      exact ⟨_, _, ρ, h1, ev.trans (evo_below_any ev.rel (by rw [hsz2]; exact h2)), .tup [] #[] rfl fun i hi => by simp at hi⟩
/-! ### from the shelf's contract -/
abbrev RowA (z : Nat) (good : List Value → Prop) := {x : List Value // x.length = z ∧ (∀ v ∈ x, one v = true) ∧ good x}
def cmpI (a b : Int) : Int := if a < b then -1 else if b < a then 1 else 0
theorem cmpI_lt {a b : Int} : cmpI a b < 0 ↔ a < b := by
  unfold cmpI
  by_cases h : a < b
  · rw [if_pos h]; simp [h]
  · rw [if_neg h]; split <;> simp [h]
theorem swoK {z : Nat} {good : List Value → Prop} (kv : List Value → Int) : SWO (ltOf fun (x y : RowA z good) => cmpI (kv x.1) (kv y.1)) where
  irrefl x := decide_eq_false (fun h => by have := cmpI_lt.1 h; omega)
  trans x y z h1 h2 := by
    have h1 := cmpI_lt.1 (of_decide_eq_true h1)
    have h2 := cmpI_lt.1 (of_decide_eq_true h2)
    exact decide_eq_true (cmpI_lt.2 (by omega))
  ntrans x y z h1 h2 := by
    have h1 : ¬ _ := fun h => of_decide_eq_false h1 (cmpI_lt.2 h)
    have h2 : ¬ _ := fun h => of_decide_eq_false h2 (cmpI_lt.2 h)
    exact decide_eq_false (fun h => by have := cmpI_lt.1 h; omega)
theorem flat_eqA {z : Nat} {good : List Value → Prop} [Inhabited (RowA z good)] (d : Array (RowA z good)) (t : Nat) (ht : t < d.size * z) : (Go.Sort.flatK (fun x : RowA z good => x.1) z d)[t]! = (d.toList.map (fun x => x.1)).flatten.getD t undef := by
  have hzp : 0 < z := by
    rcases Nat.eq_zero_or_pos z with h0 | h0
    · have e : d.size * z = d.size * 0 := congrArg (fun q => d.size * q) h0
      rw [Nat.mul_zero] at e; omega
    · exact h0
  rw [get_flatK _ _ _ _ ht]
  have hj := Nat.mod_lt t hzp
  have hq : t / z < d.size := Nat.div_lt_of_lt_mul (by rw [Nat.mul_comm]; exact ht)
  have hw : ∀ x ∈ d.toList.map (fun x : RowA z good => x.1), x.length = z := fun x hx => by
    obtain ⟨y, _, rfl⟩ := List.mem_map.1 hx
    exact y.2.1
  have hc := flat_getD hw (t / z) (t % z) (by simpa using hq) hj
  have e : t / z * z + t % z = t := by rw [Nat.mul_comm]; exact Nat.div_add_mod t z
  rw [e] at hc
  rw [hc, List.getElem_map]
  have hlen := d[t / z].2.1
  have he : (d.toList)[t / z]'(by simpa using hq) = d[t / z] := by simp
  have hb : d[t / z]! = d[t / z] := getElem!_pos d _ hq
  rw [he, hb, getElem!_pos d[t / z].val _ (by rw [hlen]; exact hj)]
  simp [List.getD_eq_getElem?_getD, hlen, hj]
theorem sorts_rowK {P : Program} {z : Nat} {kd : List D → Option Int} {kv : List Value → Int} {good : List Value → Prop} {k g : FuncId}
    (hrel : ∀ (w : World) (S : Sta) (r : List D) (cs : List Value), r.length = z → cs.length = z → (∀ j, j < z → DR w S (r.getD j .nilp) (cs.getD j undef)) → ∀ n, kd r = some n → kv cs = n ∧ good cs)
    (hnone : ∀ (p : Option Addr) (cap : Nat) (fv : Value) (w : World), Calls P k #[.slice p 0 cap, fv] w fun e w' => e = .returned (.tuple #[]) ∧ w' = w)
    (hsort : ∀ (inst : Inhabited (RowA z good)) (blk off cap : Nat) (d : Array (RowA z good)) (w : World), HoldsK (fun x : RowA z good => x.1) z w blk off d → blk < w.heap.size → d.size < 4611686018427387904 → Calls P k #[.slice (some ⟨blk, off, none⟩) d.size cap, .func (.func g) #[] #[]] w fun e w' =>
      e = .returned (.tuple #[]) ∧ ∃ n os, w' = sortWorldK (fun x : RowA z good => x.1) z w blk off n (pdq (ltOf fun x y => cmpI (kv x.1) (kv y.1)) d 0 d.size (Lib.bitLen d.size) true true) os) : SortsK P z kd kv good k g := by
  refine ⟨hrel, fun a cap w => hnone a cap _ w, fun l hall hnd w blk off cap c e fz hpos hmax hb hth hfit hcells => ?_⟩
  have hblk : blk < w.heap.size := (Array.getElem?_eq_some_iff.1 hb).1
  obtain ⟨la, hla⟩ : ∃ la : List (RowA z good), la.map (fun x => x.1) = l := ⟨l.pmap (fun x h => ⟨x, h⟩) hall, by rw [List.map_pmap]; simp⟩
  have hlen : la.length = l.length := by rw [← hla, List.length_map]
  have inst : Inhabited (RowA z good) := ⟨la[0]'(by omega)⟩
  have hH : HoldsK (fun x : RowA z good => x.1) z w blk off la.toArray := fun j hj => by
    rw [size_flatK, List.size_toArray, hlen] at hj
    have ho : off + j < c.size := by omega
    refine ⟨?_, not_frozen hb hth ho⟩
    rw [cell_at hb ho, hcells j hj]
    show _ = some (id _)
    rw [id, flat_eqA la.toArray j (by rw [List.size_toArray, hlen]; exact hj)]
    show some _ = some ((la.map _).flatten.getD j undef)
    rw [hla]
  have h := hsort inst blk off cap la.toArray w hH hblk (by simp; omega)
  simp only [List.size_toArray, hlen] at h
  refine h.mono fun ex w' ⟨h1, n, os, h2⟩ => ⟨h1, ?_⟩
  subst h2
  have hO := swoK (z := z) (good := good) kv
  have hsp := srtOf_perm _ hO la
  have hss := srtOf_sorted _ hO la
  have hsl := srtOf_len _ hO la
  have hds : (pdq (ltOf fun (x y : RowA z good) => cmpI (kv x.1) (kv y.1)) la.toArray 0 la.length (Lib.bitLen la.length) true true).size = la.length := by
    have := (srtOf_spec (fun (x y : RowA z good) => cmpI (kv x.1) (kv y.1)) hO la).1.1
    simpa using this
  have hM : (srtOf (fun (x y : RowA z good) => cmpI (kv x.1) (kv y.1)) la).map (fun x => x.1) = srtK kv l := by
    refine sorted_one kv _ _ ?_ ?_ ?_ (srtK_sorted kv l)
    · have := hsp.map (fun x : RowA z good => x.1)
      rw [hla] at this
      exact this.trans (srtK_perm kv l).symm
    · have := (hsp.map (fun x : RowA z good => x.1)).map kv
      rw [hla] at this
      exact this.nodup_iff.2 hnd
    · rw [List.pairwise_map]
      exact hss.imp fun {x y} h => by
        have h : ¬ _ := fun h2 => of_decide_eq_false h (cmpI_lt.2 h2)
        omega
  unfold srtOf at hM
  rw [← hlen]
  generalize pdq (ltOf fun (x y : RowA z good) => cmpI (kv x.1) (kv y.1)) la.toArray 0 la.length (Lib.bitLen la.length) true true = dd at hds hM ⊢
  have hwide : ∀ x ∈ srtK kv l, x.length = z := fun x hx => (hall x ((srtK_perm kv l).mem_iff.1 hx)).1
  have hvl : (srtK kv l).flatten.length = la.length * z := by rw [flat_len hwide, srtK_len, hlen]
  rw [hlen] at hds hvl
  have hput : Go.Sort.putCells id off (Go.Sort.flatK (fun x : RowA z good => x.1) z dd) c = putV c off (srtK kv l).flatten := by
    have hg := putV_getD (srtK kv l).flatten c off (by rw [hvl]; exact hfit)
    apply Array.ext
    · simp [Go.Sort.putCells, putV_size]
    · intro i h1 h2
      have hi : i < c.size := by simpa [Go.Sort.putCells] using h1
      have e2 : (putV c off (srtK kv l).flatten)[i] = (putV c off (srtK kv l).flatten).getD i undef := by simp [Array.getD, h2]
      rw [e2, hg i, hvl]
      simp only [Go.Sort.putCells, Array.getElem_mapIdx, size_flatK, hds]
      by_cases hin : off ≤ i ∧ i < off + l.length * z
      · rw [if_pos hin, if_pos hin, id, flat_eqA dd (i - off) (by rw [hds]; omega), hM]
      · rw [if_neg hin, if_neg hin]; simp [Array.getD, hi]
  refine ⟨rfl, rfl, rfl, ?_, fun q hq => ?_⟩
  · rw [setBlk_size]
    show w.heap.size ≤ (sortWorldK _ _ _ _ _ _ _ _).heap.size
    unfold sortWorldK
    rw [size_grow]
    show w.heap.size ≤ (w.heap.modify blk _).size + os.size
    rw [Array.size_modify]; omega
  · unfold sortWorldK
    have hsz : q < (putRowK (fun x : RowA z good => x.1) z (Sort.ahead w n) blk off dd).heap.size := by
      show q < (w.heap.modify blk _).size
      rw [Array.size_modify]; exact hq
    rw [heap_grow_old _ _ hsz]
    show (w.heap.modify blk _)[q]? = _
    rw [Array.getElem?_modify]
    by_cases hqb : blk = q
    · subst hqb
      rw [if_pos rfl, hb, setBlk_same hb]
      show some (Obj.cells (Go.Sort.putCells id off _ c) e fz) = _
      rw [hput]
    · rw [if_neg hqb, setBlk_other (fun h => hqb h.symm)]
/-! ### the first cell as the key -/
def kd0 (r : List D) : Option Int := match r.getD 0 .nilp with | .int .i64 n => some n | _ => none
def kv0 (cs : List Value) : Int := match cs.getD 0 undef with | .int _ n => n | _ => 0
def good0 (cs : List Value) : Prop := ∃ n, cs.getD 0 undef = .int .i64 n
theorem rel0 {z : Nat} (hz : 0 < z) : ∀ (w : World) (S : Sta) (r : List D) (cs : List Value), r.length = z → cs.length = z → (∀ j, j < z → DR w S (r.getD j .nilp) (cs.getD j undef)) → ∀ n, kd0 r = some n → kv0 cs = n ∧ good0 cs := by
  intro w S r cs _ _ h n hk
  have h0 := h 0 hz
  unfold kd0 at hk
  unfold kv0 good0
  generalize r.getD 0 .nilp = d at h0 hk
  generalize cs.getD 0 undef = v at h0 ⊢
  split at hk
  · rename_i m
    injection hk with hk; subst hk
    cases h0
    exact ⟨rfl, _, rfl⟩
  · simp at hk
theorem compareI (a b : Int) : Lib.compareInt a b = cmpI a b := by
  unfold Lib.compareInt cmpI
  by_cases h : a < b
  · simp [h]
  · by_cases h2 : b < a
    · simp [h, h2]
    · simp [h, h2]
end Go.Ev
