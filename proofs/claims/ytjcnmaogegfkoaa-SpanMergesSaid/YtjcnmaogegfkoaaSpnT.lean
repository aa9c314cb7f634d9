/- Spans: what is merged is apart and has the same bytes. Plain. Own work. -/
import Derived.Test.YtjcnmaogegfkoaaSpnQ
namespace Go.Proofs.Ytjcnmaogegfkoaa
open Go Go.Ev
set_option linter.unusedSimpArgs false
set_option linter.unusedVariables false
def AP (O : List (Int × Int)) : Prop := (∀ x ∈ O, RP x.1 x.2) ∧ O.Pairwise fun x y => x.2 < y.1
theorem hasb_app (A B : List (Int × Int)) (t : Int) : hasb (A ++ B) t = (hasb A t || hasb B t) := by simp [hasb]
theorem hasb_one (a : Int × Int) (t : Int) : hasb [a] t = decide (isIn t a) := by simp [hasb]
theorem ap_step {O : List (Int × Int)} {b : Int × Int} (h : AP O) (hb : RP b.1 b.2) (hle : ∀ x ∈ O, x.1 ≤ b.1) :
    AP (mstep 0 O b) ∧ (∀ t, hasb (mstep 0 O b) t = (hasb O t || decide (isIn t b))) ∧ ∀ x ∈ mstep 0 O b, x.1 ≤ b.1 := by
  rcases snoc_of O with rfl | ⟨Q, a, rfl⟩
  · rw [mstep_nil]
    refine ⟨⟨fun x hx => by rw [List.mem_singleton.1 hx]; exact hb, List.pairwise_singleton ..⟩, fun t => by rw [hasb_one]; rfl, fun x hx => by rw [List.mem_singleton.1 hx]; exact Int.le_refl _⟩
  · obtain ⟨h1, h2⟩ := h
    have ha : RP a.1 a.2 := h1 a (by simp)
    have hab := hle a (by simp)
    have hP := List.pairwise_append.1 h2
    rw [mstep_end]
    by_cases hc : b.1 - a.2 ≤ 0
    · rw [if_pos hc]
      refine ⟨⟨fun x hx => ?_, ?_⟩, fun t => ?_, fun x hx => ?_⟩
      · rcases List.mem_append.1 hx with hx | hx
        · exact h1 x (List.mem_append_left _ hx)
        · rw [List.mem_singleton.1 hx]; unfold RP at *; simp only; omega
      · refine List.pairwise_append.2 ⟨hP.1, List.pairwise_singleton .., fun x hx y hy => ?_⟩
        rw [List.mem_singleton.1 hy]
        exact hP.2.2 x hx a (by simp)
      · rw [hasb_app, hasb_app, hasb_one, hasb_one, Bool.or_assoc]
        congr 1
        have : (isIn t (a.1, max a.2 b.2)) ↔ (isIn t a ∨ isIn t b) := by unfold isIn RP at *; simp only; omega
        by_cases q1 : isIn t a <;> by_cases q2 : isIn t b <;> simp [this, q1, q2]
      · rcases List.mem_append.1 hx with hx | hx
        · exact hle x (List.mem_append_left _ hx)
        · rw [List.mem_singleton.1 hx]; exact hab
    · rw [if_neg hc]
      refine ⟨⟨fun x hx => ?_, ?_⟩, fun t => ?_, fun x hx => ?_⟩
      · rcases List.mem_append.1 hx with hx | hx
        · exact h1 x hx
        · rw [List.mem_singleton.1 hx]; exact hb
      · refine List.pairwise_append.2 ⟨h2, List.pairwise_singleton .., fun x hx y hy => ?_⟩
        rw [List.mem_singleton.1 hy]
        rcases List.mem_append.1 hx with hx | hx
        · have := hP.2.2 x hx a (by simp); omega
        · rw [List.mem_singleton.1 hx]; omega
      · rw [hasb_app, hasb_one]
      · rcases List.mem_append.1 hx with hx | hx
        · exact hle x hx
        · rw [List.mem_singleton.1 hx]; exact Int.le_refl _
theorem ap_fold : ∀ (S O : List (Int × Int)), AP O → (∀ x ∈ S, RP x.1 x.2) → Srt S → (∀ x ∈ O, ∀ y ∈ S, x.1 ≤ y.1) → AP (S.foldl (mstep 0) O) ∧ ∀ t, hasb (S.foldl (mstep 0) O) t = (hasb O t || hasb S t)
  | [], O, h, _, _, _ => ⟨h, fun t => by simp [hasb]⟩
  | b :: S, O, h, hS, hs, hle => by
    obtain ⟨a1, a2, a3⟩ := ap_step h (hS b (List.mem_cons_self ..)) fun x hx => hle x hx b (List.mem_cons_self ..)
    have hs' := List.pairwise_cons.1 hs
    obtain ⟨b1, b2⟩ := ap_fold S (mstep 0 O b) a1 (fun x hx => hS x (List.mem_cons_of_mem _ hx)) hs'.2 fun x hx y hy => Int.le_trans (a3 x hx) (hs'.1 y hy)
    refine ⟨b1, fun t => ?_⟩
    rw [List.foldl_cons, b2, a2, Bool.or_assoc]
    rfl
theorem hasb_perm {A B : List (Int × Int)} (h : A.Perm B) (t : Int) : hasb A t = hasb B t := by
  rw [Bool.eq_iff_iff]
  unfold hasb
  rw [List.any_eq_true, List.any_eq_true]
  exact ⟨fun ⟨x, hx, hh⟩ => ⟨x, h.mem_iff.1 hx, hh⟩, fun ⟨x, hx, hh⟩ => ⟨x, h.mem_iff.2 hx, hh⟩⟩
theorem hasb_filt (l : List (Int × Int)) (t : Int) : hasb (l.filter rp) t = hasb l t := by
  rw [Bool.eq_iff_iff]
  unfold hasb
  rw [List.any_eq_true, List.any_eq_true]
  refine ⟨fun ⟨x, hx, hh⟩ => ⟨x, (List.mem_filter.1 hx).1, hh⟩, fun ⟨x, hx, hh⟩ => ⟨x, List.mem_filter.2 ⟨hx, ?_⟩, hh⟩⟩
  exact decide_eq_true (of_decide_eq_true hh).1
theorem mrg_all (l : List (Int × Int)) : AP (mrg 0 l) ∧ ∀ t, hasb (mrg 0 l) t = hasb l t := by
  have hr : ∀ x ∈ srtR l, RP x.1 x.2 := fun x hx => of_decide_eq_true (filt_rp l x ((srtR_perm l).mem_iff.1 hx))
  obtain ⟨h1, h2⟩ := ap_fold (srtR l) [] ⟨by simp, List.Pairwise.nil⟩ hr (srtR_srt l) (by simp)
  refine ⟨h1, fun t => ?_⟩
  have := h2 t
  rw [hasb_perm (srtR_perm l), hasb_filt] at this
  exact this
theorem ap_srt {O : List (Int × Int)} (h : AP O) : Srt O := by
  have hm := h.1
  refine h.2.imp_of_mem fun {x y} hx hy hxy => ?_
  have := hm x hx
  unfold RP at this; omega
theorem ap_id : ∀ (W O : List (Int × Int)), AP (O ++ W) → W.foldl (mstep 0) O = O ++ W
  | [], O, _ => by simp
  | b :: W, O, h => by
    have e : mstep 0 O b = O ++ [b] := by
      rcases snoc_of O with rfl | ⟨Q, a, rfl⟩
      · rfl
      · rw [mstep_end, if_neg]
        have := (List.pairwise_append.1 h.2).2.2 a (by simp) b (by simp)
        omega
    rw [List.foldl_cons, e, ap_id W (O ++ [b]) (by rw [List.append_assoc]; exact h), List.append_assoc]
    rfl
theorem mrg_idem (l : List (Int × Int)) : mrg 0 (mrg 0 l) = mrg 0 l := by
  obtain ⟨h, _⟩ := mrg_all l
  generalize mrg 0 l = W at h
  have hf : W.filter rp = W := List.filter_eq_self.2 fun x hx => decide_eq_true (h.1 x hx)
  have hp := srtR_perm W
  rw [hf] at hp
  have hk : okS (srtR W) := fun x hx => by have := h.1 x (hp.mem_iff.1 hx); unfold RP at this; omega
  have := fold_same (g := 0) (Int.le_refl _) (srtR W) W [] hp (srtR_srt W) (ap_srt h) hk
  unfold mrg
  rw [this]
  exact ap_id W [] h
theorem ap_okA {M : List (Int × Int)} (h : AP M) {i : Nat} (hi : i < M.length) : okA M i := by
  unfold okA
  rw [getD_of hi]
  refine ⟨h.1 _ (List.getElem_mem hi), ?_⟩
  rcases Nat.eq_zero_or_pos i with h0 | h0
  · exact .inl h0
  · right
    rw [getD_of (show i - 1 < M.length by omega)]
    exact (List.pairwise_iff_getElem.1 h.2) (i - 1) i (by omega) hi (by omega)
theorem ap_apTo {M : List (Int × Int)} (h : AP M) : apTo M M.length = true := by
  unfold apTo
  rw [List.all_eq_true]
  intro j hj
  exact decide_eq_true (ap_okA h (by simpa using hj))
theorem one1_mem {x c : Int × Int} (h : c ∈ one1 x) : c = x ∧ RP x.1 x.2 := by
  unfold one1 at h
  split at h
  · rename_i hr; exact ⟨List.mem_singleton.1 h, hr⟩
  · simp at h
theorem hasb_one1 (x : Int × Int) (t : Int) : hasb (one1 x) t = decide (isIn t x) := by
  unfold one1
  split
  · exact hasb_one x t
  · rename_i h
    rw [decide_eq_false (show ¬ isIn t x from fun hh => h hh.1)]; rfl
theorem cut_mem {s x c : Int × Int} (h : c ∈ cutOf s x) : RP c.1 c.2 ∧ x.1 ≤ c.1 ∧ c.2 ≤ x.2 := by
  unfold cutOf at h
  split at h
  · rcases List.mem_append.1 h with h | h
    · obtain ⟨rfl, hr⟩ := one1_mem h; exact ⟨hr, by simp only; omega, by simp only; omega⟩
    · obtain ⟨rfl, hr⟩ := one1_mem h; exact ⟨hr, by simp only; omega, by simp only; omega⟩
  · obtain ⟨rfl, hr⟩ := one1_mem h; exact ⟨hr, Int.le_refl _, Int.le_refl _⟩
theorem one1_pw (x : Int × Int) : (one1 x).Pairwise fun x y => x.2 < y.1 := by
  unfold one1; split
  · exact List.pairwise_singleton ..
  · exact List.Pairwise.nil
theorem cut_pw (s x : Int × Int) : (cutOf s x).Pairwise fun x y => x.2 < y.1 := by
  unfold cutOf
  split
  · rename_i hs
    refine List.pairwise_append.2 ⟨one1_pw _, one1_pw _, fun a ha b hb => ?_⟩
    obtain ⟨rfl, _⟩ := one1_mem ha
    obtain ⟨rfl, _⟩ := one1_mem hb
    unfold RP at hs; simp only; omega
  · exact one1_pw _
theorem cut_hasb {x : Int × Int} (hx : RP x.1 x.2) (s : Int × Int) (t : Int) : hasb (cutOf s x) t = (decide (isIn t x) && !decide (isIn t s)) := by
  unfold cutOf
  split
  · rename_i hs
    rw [hasb_app, hasb_one1, hasb_one1]
    have : (isIn t (x.1, min x.2 s.1) ∨ isIn t (max x.1 s.2, x.2)) ↔ (isIn t x ∧ ¬ isIn t s) := by unfold isIn RP at *; simp only; omega
    by_cases q1 : isIn t (x.1, min x.2 s.1) <;> by_cases q2 : isIn t (max x.1 s.2, x.2) <;> by_cases q3 : isIn t x <;> by_cases q4 : isIn t s <;> simp_all
  · rename_i hs
    rw [hasb_one1, decide_eq_false (show ¬ isIn t s from fun h => hs h.1)]; simp
theorem flat_ap (s : Int × Int) : ∀ (M : List (Int × Int)), AP M → AP (M.flatMap (cutOf s))
  | [], _ => ⟨by simp, List.Pairwise.nil⟩
  | x :: M, h => by
    have hP := List.pairwise_cons.1 h.2
    obtain ⟨h1, h2⟩ := flat_ap s M ⟨fun y hy => h.1 y (List.mem_cons_of_mem _ hy), hP.2⟩
    rw [List.flatMap_cons]
    refine ⟨fun c hc => ?_, List.pairwise_append.2 ⟨cut_pw s x, h2, fun a ha b hb => ?_⟩⟩
    · rcases List.mem_append.1 hc with hc | hc
      · exact (cut_mem hc).1
      · exact h1 c hc
    · obtain ⟨y, hy, hb⟩ := List.mem_flatMap.1 hb
      have q1 := cut_mem ha
      have q2 := cut_mem hb
      have q3 := hP.1 y hy
      omega
theorem flat_hasb (s : Int × Int) (t : Int) : ∀ (M : List (Int × Int)), (∀ x ∈ M, RP x.1 x.2) → hasb (M.flatMap (cutOf s)) t = (hasb M t && !decide (isIn t s))
  | [], _ => rfl
  | x :: M, h => by
    rw [List.flatMap_cons, hasb_app, flat_hasb s t M (fun y hy => h y (List.mem_cons_of_mem _ hy)), cut_hasb (h x (List.mem_cons_self ..))]
    show _ = ((decide (isIn t x) || hasb M t) && _)
    cases decide (isIn t x) <;> cases decide (isIn t s) <;> simp
theorem minus_all (l : List (Int × Int)) (s : Int × Int) : AP (minusL l s) ∧ ∀ t, hasb (minusL l s) t = (hasb l t && !decide (isIn t s)) := by
  obtain ⟨h1, h2⟩ := mrg_all l
  refine ⟨flat_ap s _ h1, fun t => ?_⟩
  unfold minusL
  rw [flat_hasb s t _ h1.1, h2]
theorem minus_len (l : List (Int × Int)) (s : Int × Int) : (minusL l s).length ≤ 2 * l.length := by
  have h : ∀ M : List (Int × Int), (M.flatMap (cutOf s)).length ≤ 2 * M.length := by
    intro M
    induction M with
    | nil => simp
    | cons x M ih => have := cutOf_len s x; rw [List.flatMap_cons, List.length_append, List.length_cons]; omega
  have h1 := h (mrg 0 l)
  have h2 := mrg_len 0 l
  unfold minusL
  omega
end Go.Proofs.Ytjcnmaogegfkoaa
