/- A native that copies a slice into memory of its own (slices.Clone). Own work. -/
import Derived.Test.YtbcpffhialoliaaEvNatS
import Derived.Test.YtbcpffhialoliaaEvCpy
import Derived.Test.YtbcpffhialoliaaEvApp
namespace Go.Ev
open Go Go.RowKit Go.Maps
set_option linter.unusedVariables false
set_option linter.unusedSimpArgs false
/-- A row of the call's own, as an own slice. -/
theorem evo_made {w w' : World} {S : Sta} {ρ : Pos} (hr : Rel w S ρ []) (hb : Below w.heap.size w w') {e : TypeId} {z n : Nat} {v : Value} {news : List Value} (how : w'.ownsRow w.heap.size e z v n news) {xs : List (List D)} (hn : xs.length = n)
    (hc : CellsR w S z xs news.toArray) : ∃ S' ρ', Evo w S ρ [] w' S' ρ' [.arr z xs] ∧ VR w' S' ρ' (.own 0 z 0 n false) v := by
  obtain ⟨hl, hrow⟩ := how
  rcases hrow with ⟨rfl, h0⟩ | ⟨g, cap, cur, rfl, hg, hblk, hcap, hmax, hsz, htk⟩
  · have hx : xs = [] := List.eq_nil_of_length_eq_zero (by omega)
    subst hx
    have e1 := evo_of_below_new hr hb
    refine ⟨_, ρ, e1.trans (evo_nil e1.rel z), ?_⟩
    subst h0
    exact .own 0 z 0 0 false none 0 (Nat.le_refl _) (fun h => by cases h) (fun h => absurd h (by omega))
  · have hlt : ∀ k, k < w.heap.size → w'.heap[k]? = w.heap[k]? := hb.block
    have hglt : g < w'.heap.size := (Array.getElem?_eq_some_iff.1 hblk).1
    have hnz : n * z ≤ cap * z := Nat.mul_le_mul_right z hcap
    have hnl : news.length = n * z := by have := hc.size; simp at this; rw [this, hn]
    have hcur : ∀ k, k < n * z → cur.getD k undef = news.getD k undef := fun k hk => by
      have h5 : (cur.toList.take (n * z)).getD k undef = news.getD k undef := by rw [htk]
      rw [List.getD_eq_getElem?_getD, List.getElem?_take, if_pos hk] at h5
      rw [← h5, ← toList_getD, List.getD_eq_getElem?_getD]
    have hca : ∀ k, news.toArray.getD k undef = news.getD k undef := fun k => by rw [← toList_getD]
    have hst : ∀ k, S k → w'.heap[k]? = w.heap[k]? := fun k hk => hlt k (hr.slt k hk)
    have hrowR : RowR w' (fun k => S k ∨ (w.heap.size ≤ k ∧ k < w'.heap.size ∧ k ≠ g)) cur 0 z xs := by
      refine ⟨by rw [hn, hsz]; omega, fun k hk => hc.wide k hk, fun k hk => ?_, fun k hk j hj => ?_⟩
      · rw [Nat.zero_add, hcur k (by rw [← hn]; exact hk), ← hca]; exact hc.ones k hk
      · have h1 : k * z + j < n * z := by
          have : (k + 1) * z ≤ n * z := Nat.mul_le_mul_right z (by omega)
          rw [Nat.add_mul, Nat.one_mul] at this; omega
        rw [Nat.zero_add, hcur _ h1, ← hca]
        exact (hc.cell k hk j hj).mono (fun _ h => .inl h) hst
    have hρ : ∀ i, ρ i = none := fun i => hr.lim i (Nat.zero_le _)
    refine ⟨fun k => S k ∨ (w.heap.size ≤ k ∧ k < w'.heap.size ∧ k ≠ g), fun i => if i = 0 then some (g, 0) else none,
      ⟨⟨fun i => ?_, fun i j g1 β γ h1 h2 h3 h4 => ?_, fun i hi => ?_, fun i g1 β h => ?_, fun k h => ?_, hr.gl.mono (fun _ h => .inl h) fun k hk => hst k hk⟩, by simp, fun i hi => by simp at hi, fun i hi => by simp at hi, fun _ h => .inl h,
        fun k h => ?_, fun k hk _ => hlt k hk, fun k h => ?_, fun k c e' f h => ?_, hb.size, hb.os, hb.tape, hb.output, fun i cs _ h => by simp at h⟩, ?_⟩
    · by_cases hi : i = 0
      · subst hi
        refine ⟨fun h => by simp at h, fun g1 β h => ?_⟩
        simp only [if_true, Option.some.injEq, Prod.mk.injEq] at h
        obtain ⟨rfl, rfl⟩ := h
        refine ⟨fun h => ?_, cur, e, (0, 0), ⟨hblk, thaw_zero _⟩, hrowR⟩
        rcases h with h | h
        · have := hr.slt _ h; omega
        · exact h.2.2 rfl
      · have : ([Blk.arr z xs] : Heap).getD i .dead = .dead := by rw [getD_over _ _ _ (by simp; omega)]
        rw [this]; trivial
    · by_cases hi : i = 0
      · by_cases hj : j = 0
        · rw [hi, hj]
        · rw [if_neg hj] at h4; simp at h4
      · rw [if_neg hi] at h3; simp at h3
    · rw [if_neg (by simp at hi; omega)]
    · by_cases hi : i = 0
      · rw [if_pos hi] at h
        simp only [Option.some.injEq, Prod.mk.injEq] at h
        omega
      · rw [if_neg hi] at h; simp at h
    · rcases h with h | h
      · exact Nat.lt_of_lt_of_le (hr.slt k h) hb.size
      · exact h.2.1
    · rcases h with h | h
      · exact .inl h
      · exact .inr (.inr h.1)
    · obtain ⟨i, β, h1, h2⟩ := h
      simp only at h2
      by_cases hi : i = 0
      · rw [if_pos hi] at h2
        simp only [Option.some.injEq, Prod.mk.injEq] at h2
        exact .inr (by omega)
      · rw [if_neg hi] at h2; simp at h2
    · have hk : k < w.heap.size := (Array.getElem?_eq_some_iff.1 h).1
      exact ⟨c, f, by rw [hlt k hk]; exact h, rfl⟩
    · refine .own 0 z 0 n false _ cap hcap (fun h => by cases h) fun _ => ⟨g, 0, by simp, by simp, ?_⟩
      simp only [bsz, hblk]
      rw [hsz]; simp
def natSC (k : FuncId) (z bytes : Nat) : Callee := fun f args H =>
  if f = k then
    match args, H with
    | [.d (.list z' xs)], [] => if z' = z ∧ xs.length * bytes ≤ 140737488355328 ∧ xs.length ≤ 1000000000 then some (.own 0 z 0 xs.length false, [.arr z xs]) else none
    | [.d .nils], [] => some (.own 0 z 0 0 false, [.arr z []])
    | _, _ => none
  else none
theorem natSC_eq (k : FuncId) (z bytes : Nat) {xs : List (List D)} (h : xs.length * bytes ≤ 140737488355328 ∧ xs.length ≤ 1000000000) : natSC k z bytes k [.d (.list z xs)] [] = some (.own 0 z 0 xs.length false, [.arr z xs]) := by
  simp only [natSC, if_true, true_and, if_pos h]
theorem natSC_snd {P : Program} {k e : FuncId} {z bytes : Nat} (hb : HasBody P k)
    (h0 : ∀ (n c : Nat) (w : World), Calls P k #[.slice none n c] w fun e w' => e = .returned (.slice none 0 0) ∧ w' = w)
    (h1 : ∀ (a : Addr) (n c : Nat) (news : List Value) (w : World), news.length = n * z → n ≤ 1000000000 → n * bytes ≤ 140737488355328 → (∀ j u, news[j]? = some u → w.cell? (a.add j) = some u) → (∀ u ∈ news, one u = true) →
      Calls P k #[.slice (some a) n c] w fun ex w' => ∃ v', ex = .returned v' ∧ w'.ownsRow w.heap.size e z v' n news ∧ Below w.heap.size w w') : CallSnd P (natSC k z bytes) := by
  intro f args H r H' h
  unfold natSC at h
  split at h
  case isFalse => simp at h
  rename_i hf; subst hf
  refine ⟨hb, fun w S ρ cargs hr hl hv => ?_⟩
  have nilCase : cargs.getD 0 undef = .slice none 0 0 → cargs.size = 1 → Calls P f cargs w fun e w' => ∃ cv S' ρ', e = .returned cv ∧ Evo w S ρ H w' S' ρ' (H ++ [.arr z []]) ∧ VR w' S' ρ' (.own H.length z 0 0 false) cv := fun hc0 hs1 => by
    have hc : cargs = #[.slice none 0 0] := by
      apply Array.ext
      · simp [hs1]
      · intro i h1 h2
        have : i = 0 := by omega
        subst this; rw [← hc0]; simp [Array.getD, hs1]
    rw [hc]
    exact (h0 0 0 w).mono fun e w' ⟨q1, q2⟩ => by subst q2; exact ⟨_, S, ρ, q1, evo_nil hr z, .own _ z 0 0 false none 0 (Nat.le_refl _) (fun h => by cases h) (fun h => absurd h (by omega))⟩
  split at h
  case h_3 => simp at h
  case h_2 =>
    simp only [Option.some.injEq, Prod.mk.injEq] at h
    obtain ⟨rfl, rfl⟩ := h
    have e0 := hv 0 (by simp)
    simp only [List.getD_cons_zero] at e0
    refine nilCase ?_ (by simpa using hl.symm)
    generalize cargs.getD 0 undef = v at e0
    cases e0.dr; rfl
  rename_i z' xs
  split at h
  case isFalse => simp at h
  rename_i hcnd
  obtain ⟨rfl, hb1, hb2⟩ := hcnd
  simp only [Option.some.injEq, Prod.mk.injEq] at h
  obtain ⟨rfl, rfl⟩ := h
  have hs1 : cargs.size = 1 := by simpa using hl.symm
  have e0 := hv 0 (by simp)
  simp only [List.getD_cons_zero] at e0
  generalize hv0 : cargs.getD 0 undef = v0 at e0
  have hc : cargs = #[v0] := by
    apply Array.ext
    · simp [hs1]
    · intro i h1 h2
      have : i = 0 := by omega
      subst this; rw [← hv0]; simp [Array.getD, hs1]
  have hd := e0.dr
  cases hd with
  | list _ _ a n cap b o c hn h1' h2' h3' h4' h5' =>
    subst hn
    cases a with
    | none =>
      have hx : xs = [] := by
        rcases Nat.eq_zero_or_pos xs.length with h | h
        · exact List.eq_nil_of_length_eq_zero h
        · have := (h2' h).1; cases this
      subst hx
      have := h0 0 cap w
      rw [hc]
      exact this.mono fun e w' ⟨q1, q2⟩ => by subst q2; exact ⟨_, S, ρ, q1, evo_nil hr z', .own _ z' 0 0 false none 0 (Nat.le_refl _) (fun h => by cases h) (fun h => absurd h (by omega))⟩
    | some ad =>
      rw [hc]
      have hlenr : ((List.range (xs.length * z')).map c).length = xs.length * z' := by simp
      refine (h1 ad xs.length cap ((List.range (xs.length * z')).map c) w hlenr hb2 hb1 (fun j u hj => ?_) (fun u hu => ?_)).mono fun ex w' ⟨v', q1, q2, q3⟩ => ?_
      · have hjl : j < xs.length * z' := by
          have := (List.getElem?_eq_some_iff.1 hj).1; simpa using this
        have hpos : 0 < xs.length := by
          rcases Nat.eq_zero_or_pos xs.length with h | h
          · rw [h] at hjl; simp at hjl
          · exact h
        have ha := (h2' hpos).1
        injection ha with ha
        rw [ha, addr_add]
        have hu : u = c j := by
          rw [List.getElem?_map, List.getElem?_range hjl] at hj
          simpa using hj.symm
        rw [hu]; exact (h3' j hjl).1
      · obtain ⟨j, hj, rfl⟩ := List.mem_map.1 hu
        exact (h3' j (List.mem_range.1 hj)).2
      · have hcr : CellsR w S z' xs ((List.range (xs.length * z')).map c).toArray := by
          have hg : ∀ j, j < xs.length * z' → ((List.range (xs.length * z')).map c).toArray.getD j undef = c j := fun j hj => by
            rw [← toList_getD]
            simp [List.getD_eq_getElem?_getD, hj]
          refine ⟨by simp, h4', fun j hj => by rw [hg j hj]; exact (h3' j hj).2, fun i hi j hj => ?_⟩
          have h6 : i * z' + j < xs.length * z' := by
            have : (i + 1) * z' ≤ xs.length * z' := Nat.mul_le_mul_right z' hi
            rw [Nat.add_mul, Nat.one_mul] at this; omega
          rw [hg _ h6]; exact h5' i hi j hj
        obtain ⟨S', ρ', r1, r2⟩ := evo_made hr q3 q2 rfl hcr
        exact ⟨v', S', ρ', q1, r1, r2⟩
end Go.Ev
