/- From the shelf's contract of slices.SortFunc to what the native asks. Own work. -/
import Derived.Shelf.SlSortCmp.WholeK
import Derived.Shelf.SlSortCmp.NoneTotal
import Derived.Test.YtbcpffhialoliaaEvNatF
namespace Go.Ev
open Go Go.Proofs Go.RowKit Go.Sort
set_option linter.unusedVariables false
set_option linter.unusedSimpArgs false
section
variable {P : Program} {α : Type} [Inhabited α]
def srtOf (cf : α → α → Int) (l : List α) : List α := (pdq (ltOf cf) l.toArray 0 l.length (Lib.bitLen l.length) true true).toList
theorem srtOf_spec (cf : α → α → Int) (hO : SWO (ltOf cf)) (l : List α) : PermIn 0 l.length l.toArray (pdq (ltOf cf) l.toArray 0 l.length (Lib.bitLen l.length) true true) ∧ SortedIn (ltOf cf) 0 l.length (pdq (ltOf cf) l.toArray 0 l.length (Lib.bitLen l.length) true true) := by
  have h := pdq_sorts (ltOf cf) hO l.toArray 0 l.length (Lib.bitLen l.length) true true (Nat.zero_le _) (by simp) (Or.inl rfl)
  exact ⟨h.1, h.2⟩
theorem srtOf_len (cf : α → α → Int) (hO : SWO (ltOf cf)) (l : List α) : (srtOf cf l).length = l.length := by
  have := (srtOf_spec cf hO l).1.1
  simpa [srtOf] using this
theorem srtOf_perm (cf : α → α → Int) (hO : SWO (ltOf cf)) (l : List α) : (srtOf cf l).Perm l := by
  obtain ⟨h1, h2, h3⟩ := (srtOf_spec cf hO l).1
  have e1 : ∀ d : Array α, d.size = l.length → (d.extract 0 l.length).toList = d.toList := fun d hd => by rw [← hd]; simp
  rw [e1 _ (by simpa using h1), e1 _ (by simp)] at h3
  simpa [srtOf] using h3
theorem srtOf_sorted (cf : α → α → Int) (hO : SWO (ltOf cf)) (l : List α) : (srtOf cf l).Pairwise fun x y => ltOf cf y x = false := by
  have hs := (srtOf_spec cf hO l).2
  have hl := srtOf_len cf hO l
  rw [List.pairwise_iff_getElem]
  intro i j hi hj hij
  have := hs i j (Nat.zero_le _) hij (by omega)
  unfold srtOf at hi hj ⊢
  rw [Array.length_toList] at hi hj
  rw [getElem!_pos (pdq (ltOf cf) l.toArray 0 l.length (Lib.bitLen l.length) true true) _ hj, getElem!_pos (pdq (ltOf cf) l.toArray 0 l.length (Lib.bitLen l.length) true true) _ hi] at this
  simpa using this
theorem flat_eq {E : Enc α} (hE : EncOk E) (d : Array α) (t : Nat) (ht : t < d.size * E.z) : (Go.Sort.flatK E.cells E.z d)[t]! = (cellsE E d.toList).getD t undef := by
  have hzp : 0 < E.z := by
    rcases Nat.eq_zero_or_pos E.z with h0 | h0
    · rw [h0] at ht; simp at ht
    · exact h0
  rw [get_flatK _ _ _ _ ht]
  have hj := Nat.mod_lt t hzp
  have hq : t / E.z < d.size := Nat.div_lt_of_lt_mul (by rw [Nat.mul_comm]; exact ht)
  have hc := cellsE_getD hE d.toList (t / E.z) (t % E.z) (by simpa using hq) hj
  have e : t / E.z * E.z + t % E.z = t := by rw [Nat.mul_comm]; exact Nat.div_add_mod t E.z
  rw [e] at hc
  rw [hc, getElem!_pos d _ hq]
  have hlen := hE.clen d[t / E.z]
  rw [getElem!_pos _ _ (by rw [hlen]; exact hj)]
  simp [List.getD_eq_getElem?_getD, hlen, hj]
theorem sorts_row {E : Enc α} (hE : EncOk E) {cf : α → α → Int} (hO : SWO (ltOf cf)) {k g : FuncId}
    (hnone : ∀ (p : Option Addr) (cap : Nat) (fv : Value) (w : World), Calls P k #[.slice p 0 cap, fv] w fun e w' => e = .returned (.tuple #[]) ∧ w' = w)
    (hsort : ∀ (blk off cap : Nat) (d : Array α) (w : World), HoldsK E.cells E.z w blk off d → blk < w.heap.size → d.size < 4611686018427387904 → Calls P k #[.slice (some ⟨blk, off, none⟩) d.size cap, .func (.func g) #[] #[]] w fun e w' =>
      e = .returned (.tuple #[]) ∧ ∃ n os, w' = sortWorldK E.cells E.z w blk off n (pdq (ltOf cf) d 0 d.size (Lib.bitLen d.size) true true) os) : SortsRow P E (srtOf cf) k g := by
  refine ⟨fun a cap w => hnone a cap _ w, fun w blk off cap l c e fz hpos hmax hb hth hfit hcells => ?_⟩
  have hblk : blk < w.heap.size := (Array.getElem?_eq_some_iff.1 hb).1
  have hH : HoldsK E.cells E.z w blk off l.toArray := fun j hj => by
    rw [size_flatK, List.size_toArray] at hj
    have ho : off + j < c.size := by omega
    refine ⟨?_, not_frozen hb hth ho⟩
    rw [cell_at hb ho, hcells j hj]
    show _ = some (id _)
    rw [id, flat_eq hE l.toArray j (by simpa using hj)]
  have h := hsort blk off cap l.toArray w hH hblk (by simp; omega)
  simp only [List.size_toArray] at h
  refine h.mono fun ex w' ⟨h1, n, os, h2⟩ => ⟨h1, ?_⟩
  subst h2
  have hds : (pdq (ltOf cf) l.toArray 0 l.length (Lib.bitLen l.length) true true).size = l.length := by
    have := (srtOf_spec cf hO l).1.1
    simpa using this
  have hvl : (cellsE E (srtOf cf l)).length = l.length * E.z := by rw [cellsE_len hE, srtOf_len cf hO]
  have hput : Go.Sort.putCells id off (Go.Sort.flatK E.cells E.z (pdq (ltOf cf) l.toArray 0 l.length (Lib.bitLen l.length) true true)) c = putV c off (cellsE E (srtOf cf l)) := by
    have hg := putV_getD (cellsE E (srtOf cf l)) c off (by rw [hvl]; exact hfit)
    apply Array.ext
    · simp [Go.Sort.putCells, putV_size]
    · intro i h1 h2
      have hi : i < c.size := by simpa [Go.Sort.putCells] using h1
      have e2 : (putV c off (cellsE E (srtOf cf l)))[i] = (putV c off (cellsE E (srtOf cf l))).getD i undef := by simp [Array.getD, h2]
      rw [e2, hg i, hvl]
      simp only [Go.Sort.putCells, Array.getElem_mapIdx, size_flatK, hds]
      by_cases hin : off ≤ i ∧ i < off + l.length * E.z
      · rw [if_pos hin, if_pos hin, id, flat_eq hE _ _ (by rw [hds]; omega)]
        rfl
      · rw [if_neg hin, if_neg hin]; simp [Array.getD, hi]
  refine ⟨rfl, rfl, rfl, ?_, fun q hq => ?_⟩
  · rw [setBlk_size]
    show w.heap.size ≤ (sortWorldK _ _ _ _ _ _ _ _).heap.size
    unfold sortWorldK
    rw [size_grow]
    show w.heap.size ≤ (w.heap.modify blk _).size + os.size
    rw [Array.size_modify]; omega
  · unfold sortWorldK
    have hsz : q < (putRowK E.cells E.z (Sort.ahead w n) blk off (pdq (ltOf cf) l.toArray 0 l.length (Lib.bitLen l.length) true true)).heap.size := by
      show q < (w.heap.modify blk _).size
      rw [Array.size_modify]; exact hq
    rw [heap_grow_old _ _ hsz]
    show (w.heap.modify blk _)[q]? = _
    rw [Array.getElem?_modify]
    by_cases hqb : blk = q
    · subst hqb
      rw [if_pos rfl, hb, setBlk_same hb]
      show some (Obj.cells (Go.Sort.putCells id off _ c) e fz) = _
      rw [hput]
    · rw [if_neg hqb, setBlk_other (fun h => hqb h.symm)]
end
end Go.Ev
