/- Spans: merging does not depend on the order of those that begin alike. Plain. Own work. -/
import Derived.Test.YtjcnmaogegfkoaaSpnS
namespace Go.Proofs.Ytjcnmaogegfkoaa
open Go Go.Ev
set_option linter.unusedSimpArgs false
set_option linter.unusedVariables false
theorem pos_above (O : List (Int × Int)) (f : Int) : ∀ i, ∀ j, pos O f i ≤ j → j < i → f < (O.getD j (0, 0)).1
  | 0, j, _, h => by omega
  | i + 1, j, h1, h2 => by
    unfold pos at h1
    split at h1
    · rename_i hc
      rcases Nat.lt_or_ge j i with h | h
      · exact pos_above O f i j h1 h
      · have : j = i := by omega
        subst this; exact hc
    · omega
theorem pos_below (O : List (Int × Int)) (f : Int) : ∀ i, pos O f i = 0 ∨ (O.getD (pos O f i - 1) (0, 0)).1 ≤ f
  | 0 => .inl rfl
  | i + 1 => by
    unfold pos
    split
    · exact pos_below O f i
    · rename_i hc
      right
      rw [Nat.add_sub_cancel]; omega
abbrev Srt (l : List (Int × Int)) : Prop := l.Pairwise fun x y => x.1 ≤ y.1
theorem insP_srt {O : List (Int × Int)} (h : Srt O) (s : Int × Int) : Srt (insP O s) := by
  have hp := pos_le O s.1 O.length
  have ha := pos_above O s.1 O.length
  have hb := pos_below O s.1 O.length
  unfold insP
  generalize pos O s.1 O.length = p at hp ha hb
  have hT : ∀ x ∈ O.take p, x.1 ≤ s.1 := by
    intro x hx
    obtain ⟨j, hj, rfl⟩ := List.getElem_of_mem hx
    rw [List.length_take] at hj
    rw [List.getElem_take]
    rcases hb with hb | hb
    · omega
    · rw [getD_of (show p - 1 < O.length by omega)] at hb
      rcases Nat.lt_or_ge j (p - 1) with h1 | h1
      · exact Int.le_trans ((List.pairwise_iff_getElem.1 h) j (p - 1) (by omega) (by omega) h1) hb
      · have : j = p - 1 := by omega
        subst this; exact hb
  have hD : ∀ x ∈ O.drop p, s.1 ≤ x.1 := by
    intro x hx
    obtain ⟨j, hj, rfl⟩ := List.getElem_of_mem hx
    rw [List.length_drop] at hj
    rw [List.getElem_drop]
    have := ha (p + j) (by omega) (by omega)
    rw [getD_of (show p + j < O.length by omega)] at this
    omega
  have h1 := List.pairwise_append.1 (by rw [List.take_append_drop]; exact h : Srt (O.take p ++ O.drop p))
  refine List.pairwise_append.2 ⟨h1.1, List.pairwise_cons.2 ⟨hD, h1.2.1⟩, ?_⟩
  intro x hx y hy
  rcases List.mem_cons.1 hy with rfl | hy
  · exact hT x hx
  · exact h1.2.2 x hx y hy
theorem insL_srt : ∀ (L O : List (Int × Int)), Srt O → Srt (L.foldl insP O)
  | [], O, h => h
  | x :: L, O, h => insL_srt L _ (insP_srt h x)
theorem srtR_srt (l : List (Int × Int)) : Srt (srtR l) := insL_srt _ _ List.Pairwise.nil
/-- The last one. -/
theorem snoc_of {α : Type} (l : List α) : l = [] ∨ ∃ q a, l = q ++ [a] := by
  rcases List.eq_nil_or_concat l with h | ⟨q, a, h⟩
  · exact .inl h
  · exact .inr ⟨q, a, by rw [h]; simp⟩
theorem mstep_nil (g : Int) (b : Int × Int) : mstep g [] b = [b] := rfl
/-- Two that begin alike may change places. -/
theorem mstep_comm {g : Int} (hg : 0 ≤ g) (O : List (Int × Int)) {x y : Int × Int} (hx : x.1 < x.2) (hy : y.1 < y.2) (h : x.1 = y.1) : mstep g (mstep g O x) y = mstep g (mstep g O y) x := by
  obtain ⟨x1, x2⟩ := x
  obtain ⟨y1, y2⟩ := y
  simp only at h hx hy
  subst h
  have two : ∀ Q : List (Int × Int), mstep g (Q ++ [(x1, x2)]) (x1, y2) = mstep g (Q ++ [(x1, y2)]) (x1, x2) := fun Q => by
    rw [mstep_end, mstep_end, if_pos (by simp only; omega), if_pos (by simp only; omega), Int.max_comm]
  rcases snoc_of O with rfl | ⟨Q, a, rfl⟩
  · exact two []
  · rw [mstep_end, mstep_end]
    simp only
    by_cases hc : x1 - a.2 ≤ g
    · rw [if_pos hc, if_pos hc, mstep_end, mstep_end, if_pos (by simp only; omega), if_pos (by simp only; omega)]
      simp only
      rw [show max (max a.2 x2) y2 = max (max a.2 y2) x2 by omega]
    · rw [if_neg hc, if_neg hc]
      exact two _
def okS (l : List (Int × Int)) : Prop := ∀ x ∈ l, x.1 < x.2
theorem fold_front {g : Int} (hg : 0 ≤ g) : ∀ (T1 T2 O : List (Int × Int)) (x : Int × Int), x.1 < x.2 → okS T1 → (∀ y ∈ T1, y.1 = x.1) → (T1 ++ x :: T2).foldl (mstep g) O = (x :: (T1 ++ T2)).foldl (mstep g) O
  | [], T2, O, x, hx, h1, h2 => rfl
  | y :: T1, T2, O, x, hx, h1, h2 => by
    rw [List.cons_append, List.foldl_cons, fold_front hg T1 T2 _ x hx (fun z hz => h1 z (List.mem_cons_of_mem _ hz)) (fun z hz => h2 z (List.mem_cons_of_mem _ hz))]
    rw [List.foldl_cons, List.foldl_cons, List.cons_append, List.foldl_cons, mstep_comm hg O (h1 y (List.mem_cons_self ..)) hx (h2 y (List.mem_cons_self ..))]
theorem fold_same {g : Int} (hg : 0 ≤ g) : ∀ (S T O : List (Int × Int)), S.Perm T → Srt S → Srt T → okS S → S.foldl (mstep g) O = T.foldl (mstep g) O
  | [], T, O, hp, _, _, _ => by rw [hp.nil_eq]
  | x :: S, T, O, hp, hS, hT, hk => by
    have hm : x ∈ T := hp.mem_iff.1 (List.mem_cons_self ..)
    obtain ⟨T1, T2, rfl⟩ := List.append_of_mem hm
    have hS' := List.pairwise_cons.1 hS
    have hT' := List.pairwise_append.1 hT
    have hkT : okS (T1 ++ x :: T2) := fun z hz => hk z (hp.mem_iff.2 hz)
    have heq : ∀ y ∈ T1, y.1 = x.1 := fun y hy => by
      have h1 : y.1 ≤ x.1 := hT'.2.2 y hy x (List.mem_cons_self ..)
      have h2 : x.1 ≤ y.1 := by
        have : y ∈ x :: S := hp.mem_iff.2 (List.mem_append_left _ hy)
        rcases List.mem_cons.1 this with rfl | h
        · exact Int.le_refl _
        · exact hS'.1 y h
      omega
    rw [fold_front hg T1 T2 O x (hk x (List.mem_cons_self ..)) (fun z hz => hkT z (List.mem_append_left _ hz)) heq]
    have hp2 : S.Perm (T1 ++ T2) := (hp.trans List.perm_middle).cons_inv
    have hT2 : Srt (T1 ++ T2) := List.pairwise_append.2 ⟨hT'.1, (List.pairwise_cons.1 hT'.2.1).2, fun a ha b hb => hT'.2.2 a ha b (List.mem_cons_of_mem _ hb)⟩
    rw [List.foldl_cons, List.foldl_cons]
    exact fold_same hg S (T1 ++ T2) _ hp2 hS'.2 hT2 fun z hz => hk z (List.mem_cons_of_mem _ hz)
theorem okS_rp (l : List (Int × Int)) : okS (l.filter rp) := fun x hx => by
  have := of_decide_eq_true (filt_rp l x hx)
  unfold RP at this; omega
theorem t_merge (l : List (Int × Int)) (hl : l.length ≤ 1000) (g : Int) : call Ir.ir 5 [.d (.list 2 (l.map eP)), .d (.int .i64 g)] [] = some (.own 0 2 0 (mrg (max g 0) l).length false, [.arr 2 ((mrg (max g 0) l).map eP)]) := by
  obtain ⟨S, h1, h2, h3⟩ := c_merge l hl g
  have hk : okS S := fun x hx => okS_rp l x (h1.mem_iff.1 hx)
  have := fold_same (g := max g 0) (by omega) S (srtR l) [] (h1.trans (srtR_perm l).symm) h2 (srtR_srt l) hk
  rw [this] at h3
  exact h3
end Go.Proofs.Ytjcnmaogegfkoaa
