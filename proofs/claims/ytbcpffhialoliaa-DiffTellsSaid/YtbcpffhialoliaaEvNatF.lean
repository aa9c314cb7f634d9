/- A native that puts the rows of an own slice into an order (slices.SortFunc at a closure without bindings). Own work. -/
import Derived.Test.YtbcpffhialoliaaEvNatS
import Derived.Test.YtbcpffhialoliaaEvRow
namespace Go.Ev
open Go Go.RowKit Go.Maps
set_option linter.unusedVariables false
set_option linter.unusedSimpArgs false
/-- How elements are written as rows of data and as cells. -/
structure Enc (α : Type) where
  z : Nat
  row : α → List D
  cells : α → List Value
  dec : List D → Option α
/-- What an encoding owes: rows and cells say the same. -/
structure EncOk {α : Type} (E : Enc α) : Prop where
  rlen : ∀ x, (E.row x).length = E.z
  clen : ∀ x, (E.cells x).length = E.z
  dec : ∀ r x, E.dec r = some x → r = E.row x
  ones : ∀ x, ∀ v ∈ E.cells x, one v = true
  dr : ∀ (w : World) (S : Sta) x j, j < E.z → DR w S ((E.row x).getD j .nilp) ((E.cells x).getD j undef)
  inv : ∀ (w : World) (S : Sta) x j v, j < E.z → DR w S ((E.row x).getD j .nilp) v → v = (E.cells x).getD j undef
def decL {α : Type} (E : Enc α) : List (List D) → Option (List α)
  | [] => some []
  | r :: rs => match E.dec r, decL E rs with
    | some x, some xs => some (x :: xs)
    | _, _ => none
theorem decL_rows {α : Type} {E : Enc α} (h : EncOk E) : ∀ {rs : List (List D)} {l : List α}, decL E rs = some l → rs = l.map E.row
  | [], l, e => by simp [decL] at e; subst e; rfl
  | r :: rs, l, e => by
    unfold decL at e
    split at e
    · rename_i x xs hx hxs
      injection e with e; subst e
      rw [List.map_cons, ← h.dec _ _ hx, ← decL_rows h hxs]
    · simp at e
def natSF {α : Type} (E : Enc α) (srt : List α → List α) (k g : FuncId) : Callee := fun f args H =>
  if f = k then
    match args with
    | [.own i z o n _, .clo (.func g') [] []] => if g' = g ∧ z = E.z then (match H.getD i .dead with
      | .arr z' xs => if z' = E.z ∧ o + n ≤ xs.length ∧ n ≤ 1000000 then (match decL E ((xs.drop o).take n) with
        | some l => some (.tup [], H.set i (.arr z' (xs.take o ++ (srt l).map E.row ++ xs.drop (o + n))))
        | none => none) else none
      | _ => none) else none
    | [.d .nils, .clo (.func g') [] []] => if g' = g then some (.tup [], H) else none
    | _ => none
  else none
theorem natSF_eq {α : Type} (E : Enc α) (srt : List α → List α) (k g : FuncId) {i z o n : Nat} {b : Bool} {H : Heap} {xs : List (List D)} {l : List α} (hz : z = E.z) (hb : H.getD i .dead = .arr z xs) (hn : o + n ≤ xs.length ∧ n ≤ 1000000) (hl : decL E ((xs.drop o).take n) = some l) :
    natSF E srt k g k [.own i z o n b, .clo (.func g) [] []] H = some (.tup [], H.set i (.arr z (xs.take o ++ (srt l).map E.row ++ xs.drop (o + n)))) := by
  subst hz
  simp only [natSF, if_true, and_self, hb, hn.1, hn.2, hl]
def cellsE {α : Type} (E : Enc α) (l : List α) : List Value := l.flatMap E.cells
theorem cellsE_len {α : Type} {E : Enc α} (h : EncOk E) : ∀ l : List α, (cellsE E l).length = l.length * E.z
  | [] => by simp [cellsE]
  | x :: l => by
    have := cellsE_len h l
    unfold cellsE at this ⊢
    rw [List.flatMap_cons, List.length_append, this, h.clen, List.length_cons, Nat.add_mul, Nat.one_mul]; omega
theorem cellsE_getD {α : Type} {E : Enc α} (h : EncOk E) : ∀ (l : List α) (q j : Nat) (hq : q < l.length), j < E.z → (cellsE E l).getD (q * E.z + j) undef = (E.cells l[q]).getD j undef
  | [], q, j, hq, _ => by simp at hq
  | x :: l, 0, j, hq, hj => by
    unfold cellsE
    rw [List.flatMap_cons, Nat.zero_mul, Nat.zero_add]
    simp only [List.getD_eq_getElem?_getD, List.getElem_cons_zero]
    rw [List.getElem?_append_left (by rw [h.clen]; exact hj)]
  | x :: l, q + 1, j, hq, hj => by
    have ih := cellsE_getD h l q j (by simpa using hq) hj
    unfold cellsE at ih ⊢
    rw [List.flatMap_cons]
    simp only [List.getD_eq_getElem?_getD, List.getElem_cons_succ] at ih ⊢
    rw [List.getElem?_append_right (by rw [h.clen, Nat.add_mul, Nat.one_mul]; omega), h.clen, show (q + 1) * E.z + j - E.z = q * E.z + j by rw [Nat.add_mul, Nat.one_mul]; omega]
    exact ih
theorem cellsE_mem {α : Type} {E : Enc α} (h : EncOk E) {l : List α} {v : Value} (hv : v ∈ cellsE E l) : one v = true := by
  obtain ⟨x, _, hx⟩ := List.mem_flatMap.1 hv
  exact h.ones x v hx
/-- What the sort's contract must say. -/
def SortsRow {α : Type} (P : Program) (E : Enc α) (srt : List α → List α) (k g : FuncId) : Prop :=
  (∀ (a : Option Addr) (cap : Nat) (w : World), Calls P k #[.slice a 0 cap, .func (.func g) #[] #[]] w fun e w' => e = .returned (.tuple #[]) ∧ w' = w) ∧
  ∀ (w : World) (blk off cap : Nat) (l : List α) (c : Array Value) (e : TypeId) (fz : Nat × Nat), 0 < l.length → l.length ≤ 1000000 → w.heap[blk]? = some (.cells c e fz) → Thaw fz c.size → off + l.length * E.z ≤ c.size →
    (∀ t, t < l.length * E.z → c.getD (off + t) undef = (cellsE E l).getD t undef) →
    Calls P k #[.slice (some ⟨blk, off, none⟩) l.length cap, .func (.func g) #[] #[]] w fun ex w' => ex = .returned (.tuple #[]) ∧ Below w.heap.size (setBlk w blk (.cells (putV c off (cellsE E (srt l))) e fz)) w'
theorem natSF_snd {α : Type} {P : Program} {E : Enc α} (hE : EncOk E) {srt : List α → List α} (hlen : ∀ l, (srt l).length = l.length) {k g : FuncId} (hb : HasBody P k) (hs : SortsRow P E srt k g) : CallSnd P (natSF E srt k g) := by
  intro f args H r H' h
  unfold natSF at h
  split at h
  case isFalse => simp at h
  rename_i hf; subst hf
  refine ⟨hb, fun w S ρ cargs hr hl hv => ?_⟩
  split at h
  case h_3 => simp at h
  case h_2 =>
    rename_i g'
    split at h
    case isFalse => simp at h
    rename_i hg; subst hg
    simp only [Option.some.injEq, Prod.mk.injEq] at h
    obtain ⟨rfl, rfl⟩ := h
    have e0 := hv 0 (by simp)
    have e1 := hv 1 (by simp)
    simp only [List.getD_cons_zero] at e0
    have e1' : VR w S ρ (.clo (.func g') [] []) (cargs.getD 1 undef) := by simpa using e1
    have hc : cargs = #[.slice none 0 0, .func (.func g') #[] #[]] := by
      have a0 : cargs.getD 0 undef = .slice none 0 0 := by
        generalize cargs.getD 0 undef = v at e0
        cases e0.dr; rfl
      have a1 : cargs.getD 1 undef = .func (.func g') #[] #[] := by
        generalize cargs.getD 1 undef = v at e1'
        cases e1' with
        | clo _ _ _ va vb n1 n2 _ _ =>
          have : va = #[] := Array.eq_empty_of_size_eq_zero (by simpa using n1.symm)
          have : vb = #[] := Array.eq_empty_of_size_eq_zero (by simpa using n2.symm)
          subst va; subst vb; rfl
      have hsz : cargs.size = 2 := by simpa using hl.symm
      apply Array.ext
      · simp [hsz]
      · intro i h1 h2
        have : i = 0 ∨ i = 1 := by omega
        rcases this with rfl | rfl
        · rw [← a0]; simp [Array.getD, hsz]
        · rw [← a1]; simp [Array.getD, hsz]
    rw [hc]
    exact (hs.1 none 0 w).mono fun e w' ⟨h1, h2⟩ => by subst h2; exact ⟨_, S, ρ, h1, Evo.refl hr, .tup [] #[] rfl fun i hi => by simp at hi⟩
  rename_i i z o n b g'
  split at h
  case isFalse => simp at h
  rename_i hg
  obtain ⟨rfl, rfl⟩ := hg
  split at h
  case h_2 => simp at h
  rename_i z' xs hbl
  split at h
  case isFalse => simp at h
  rename_i hcnd
  obtain ⟨rfl, hn1, hn2⟩ := hcnd
  split at h
  case h_2 => simp at h
  rename_i l hdl
  simp only [Option.some.injEq, Prod.mk.injEq] at h
  obtain ⟨rfl, rfl⟩ := h
  have hrows := decL_rows hE hdl
  have hll : l.length = n := by
    have := congrArg List.length hrows
    simp only [List.length_take, List.length_drop, List.length_map] at this
    omega
  have e0 := hv 0 (by simp)
  have e1 : VR w S ρ (.clo (.func g') [] []) (cargs.getD 1 undef) := by have := hv 1 (by simp); simpa using this
  simp only [List.getD_cons_zero] at e0
  have a1 : cargs.getD 1 undef = .func (.func g') #[] #[] := by
    generalize cargs.getD 1 undef = v at e1
    cases e1 with
    | clo _ _ _ va vb n1 n2 _ _ =>
      have : va = #[] := Array.eq_empty_of_size_eq_zero (by simpa using n1.symm)
      have : vb = #[] := Array.eq_empty_of_size_eq_zero (by simpa using n2.symm)
      subst va; subst vb; rfl
  have hsz : cargs.size = 2 := by simpa using hl.symm
  have hca : ∀ v0, cargs.getD 0 undef = v0 → cargs = #[v0, .func (.func g') #[] #[]] := fun v0 a0 => by
    apply Array.ext
    · simp [hsz]
    · intro i h1 h2
      have : i = 0 ∨ i = 1 := by omega
      rcases this with rfl | rfl
      · rw [← a0]; simp [Array.getD, hsz]
      · rw [← a1]; simp [Array.getD, hsz]
  generalize hv0 : cargs.getD 0 undef = v0 at e0
  have hc := hca v0 hv0
  cases e0 with
  | own _ _ _ _ _ a cap hn hk hp =>
    rw [hc]
    have hne : Blk.arr E.z xs ≠ .dead := fun h => by cases h
    by_cases hn0 : n = 0
    · subst hn0
      have hl0 : l = [] := List.eq_nil_of_length_eq_zero hll
      have hs0 : srt l = [] := List.eq_nil_of_length_eq_zero (by rw [hlen, hl0]; rfl)
      have e2 : xs.take o ++ (srt l).map E.row ++ xs.drop (o + 0) = xs := by rw [hs0]; simp
      rw [e2, set_self hbl hne]
      exact (hs.1 a cap w).mono fun e w' ⟨h1, h2⟩ => by subst h2; exact ⟨_, S, ρ, h1, Evo.refl hr, .tup [] #[] rfl fun i hi => by simp at hi⟩
    · obtain ⟨g0, β, hp1, rfl, hp3⟩ := hp (by omega)
      have hsl : ((srt l).map E.row).length = n := by rw [List.length_map, hlen, hll]
      have hrg : ∀ q (hq : q < (srt l).length), ((srt l).map E.row).getD q [] = E.row (srt l)[q] := fun q hq => by simp [List.getD_eq_getElem?_getD, hq]
      obtain ⟨c, e, fz, w1, w2, w3, hrow, hS, ev⟩ := evo_rows (ys := (srt l).map E.row) hr hbl hp1 (by rw [hsl]; exact hn1) (vs := cellsE E (srt l)) (by rw [cellsE_len hE, List.length_map])
        (fun v hv => cellsE_mem hE hv)
        (fun q hq => by rw [List.length_map] at hq; rw [hrg q hq]; exact hE.rlen _)
        (fun q hq j hj => by
          rw [List.length_map] at hq
          rw [hrg q hq, cellsE_getD hE _ q j hq hj]
          exact hE.dr w S _ j hj)
      rw [hsl] at ev
      have hcells : ∀ t, t < l.length * E.z → c.getD (β + o * E.z + t) undef = (cellsE E l).getD t undef := fun t ht => by
        have hzp : 0 < E.z := by
          rcases Nat.eq_zero_or_pos E.z with h0 | h0
          · rw [h0] at ht; simp at ht
          · exact h0
        obtain ⟨q, j, rfl, hj⟩ : ∃ q j, t = q * E.z + j ∧ j < E.z := ⟨t / E.z, t % E.z, by rw [Nat.mul_comm]; exact (Nat.div_add_mod t E.z).symm, Nat.mod_lt t hzp⟩
        have hq : q < l.length := by
          rcases Nat.lt_or_ge q l.length with h1 | h1
          · exact h1
          · have := Nat.mul_le_mul_right E.z h1; omega
        rw [cellsE_getD hE l q j hq hj]
        have hd := hrow.cell (o + q) (by omega) j hj
        have hx : xs.getD (o + q) [] = E.row l[q] := by
          have := congrArg (fun r => r.getD q []) hrows
          simp only [List.getD_eq_getElem?_getD, List.getElem?_take, List.getElem?_drop, List.getElem?_map] at this ⊢
          rw [if_pos (by omega)] at this
          rw [this, List.getElem?_eq_getElem hq]; rfl
        rw [hx] at hd
        have := hE.inv w S l[q] j _ hj hd
        rw [show β + o * E.z + (q * E.z + j) = β + ((o + q) * E.z + j) by rw [Nat.add_mul]; omega]
        exact this
      have hfit : β + o * E.z + l.length * E.z ≤ c.size := by
        rw [cellsE_len hE, hlen] at w3; exact w3
      have hcall := hs.2 w g0 (β + o * E.z) cap l c e fz (by omega) (by omega) w1 w2 hfit hcells
      rw [hll] at hcall
      refine hcall.mono fun ex w' ⟨h1, h2⟩ => ?_
      have hsz2 : (setBlk w g0 (.cells (putV c (β + o * E.z) (cellsE E (srt l))) e fz)).heap.size = w.heap.size := setBlk_size ..
      exact ⟨_, _, ρ, h1, ev.trans (evo_below_any ev.rel (by rw [hsz2]; exact h2)), .tup [] #[] rfl fun i hi => by simp at hi⟩
end Go.Ev
