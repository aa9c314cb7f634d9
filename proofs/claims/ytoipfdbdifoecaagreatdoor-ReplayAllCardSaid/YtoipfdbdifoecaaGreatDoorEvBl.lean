import Derived.Lib.TrailingZeros
namespace Go.Ev
open Go
/-- The numbers of a word's bits, the lowest first. -/
def bl (w : BitVec 64) : List Nat := (List.range 64).filter fun t => w.getLsbD t
theorem filter_first (n c : Nat) (p q : Nat → Bool) (hc : c < n) (hp : p c = true) (hlow : ∀ t, t < c → p t = false) (hq : ∀ t, t < n → q t = (p t && decide (t ≠ c))) :
    (List.range n).filter p = c :: (List.range n).filter q := by
  have e : List.range n = List.range c ++ (c :: (List.range (n - c - 1)).map (c + 1 + ·)) := by
    have h1 : n = c + (1 + (n - c - 1)) := by omega
    rw [h1, List.range_add, List.range_add]
    simp
    intro a _; omega
  have f1 : (List.range c).filter p = [] := by
    rw [List.filter_eq_nil_iff]; intro t ht; rw [hlow t (List.mem_range.1 ht)]; simp
  have f2 : (List.range c).filter q = [] := by
    rw [List.filter_eq_nil_iff]; intro t ht; have := List.mem_range.1 ht; rw [hq t (by omega), hlow t this]; simp
  have f3 : q c = false := by rw [hq c hc]; simp
  have f4 : ((List.range (n - c - 1)).map (c + 1 + ·)).filter p = ((List.range (n - c - 1)).map (c + 1 + ·)).filter q := by
    apply List.filter_congr
    intro t ht
    obtain ⟨a, ha, rfl⟩ := List.mem_map.1 ht
    have := List.mem_range.1 ha
    rw [hq _ (by omega), decide_eq_true (by omega), Bool.and_true]
  rw [e, List.filter_append, List.filter_append, f1, f2, List.filter_cons, List.filter_cons, if_pos hp, f3, f4]
  simp
theorem bl_zero : bl 0#64 = [] := by
  unfold bl; rw [List.filter_eq_nil_iff]; intro t _; simp
theorem bl_step (w : BitVec 64) (h : w.toNat ≠ 0) : bl w = Lib.ctz 64 w.toNat :: bl (w &&& (w - 1#64)) ∧ Lib.ctz 64 w.toNat < 64 := by
  obtain ⟨m, hm, hk⟩ := Lib.ctzFrom_spec 64 w.toNat (by omega) w.isLt
  have e : Lib.ctz 64 w.toNat = Lib.ctzFrom 64 w.toNat := by simp [Lib.ctz, h]
  rw [e]
  generalize Lib.ctzFrom 64 w.toNat = c at hm hk
  have hs : (w - 1#64).toNat = 2 ^ c * (2 * m) + (2 ^ c - 1) := by
    have hp : 0 < 2 ^ c := Nat.two_pow_pos c
    have hlt := w.isLt
    rw [BitVec.toNat_sub]
    have : (1#64).toNat = 1 := rfl
    rw [this]
    have h2 : w.toNat = 2 ^ c * (2 * m) + 2 ^ c := by rw [hm, Nat.mul_add, Nat.mul_one]
    omega
  have b1 : ∀ t, w.getLsbD t = (decide (c ≤ t) && (2 * m + 1).testBit (t - c)) := fun t => by
    rw [BitVec.getLsbD, hm, Nat.mul_comm, Nat.testBit_mul_two_pow]
  have b2 : ∀ t, (w - 1#64).getLsbD t = if t < c then true else (2 * m).testBit (t - c) := fun t => by
    have hp : 2 ^ c - 1 < 2 ^ c := by have := Nat.two_pow_pos c; omega
    rw [BitVec.getLsbD, hs, Nat.testBit_two_pow_mul_add _ hp]
    split
    · rw [Nat.testBit_two_pow_sub_one]; simp [*]
    · rfl
  refine ⟨filter_first 64 c _ _ hk ?_ ?_ ?_, hk⟩
  · rw [b1]; simp
  · intro t ht; rw [b1, decide_eq_false (by omega), Bool.false_and]
  · intro t _
    rw [BitVec.getLsbD_and, b1, b2]
    by_cases h1 : t < c
    · simp [h1, show ¬ c ≤ t by omega]
    · rw [if_neg h1, decide_eq_true (show c ≤ t by omega), Bool.true_and]
      by_cases h2 : t = c
      · subst h2; simp
      · rw [decide_eq_true h2, Bool.and_true]
        obtain ⟨j, hj⟩ : ∃ j, t - c = j + 1 := ⟨t - c - 1, by omega⟩
        rw [hj, Nat.testBit_succ, Nat.testBit_succ]
        have d1 : (2 * m + 1) / 2 = m := by omega
        have d2 : 2 * m / 2 = m := by omega
        rw [d1, d2, Bool.and_self]
/-- All numbers of a set, the lowest first: what 'All' gives. -/
def restW (W : Nat → BitVec 64) : Nat → Nat → List Nat
  | 0, _ => []
  | n + 1, k => (bl (W k)).map (k * 64 + ·) ++ restW W n (k + 1)
theorem restW_mem (W : Nat → BitVec 64) : ∀ n k i, i ∈ restW W n k ↔ k * 64 ≤ i ∧ i < (k + n) * 64 ∧ (W (i / 64)).getLsbD (i % 64) = true
  | 0, k, i => by simp [restW]; omega
  | n + 1, k, i => by
    rw [restW, List.mem_append, restW_mem W n (k + 1) i, List.mem_map]
    unfold bl
    constructor
    · rintro (⟨t, ht, rfl⟩ | ⟨h1, h2, h3⟩)
      · obtain ⟨h1, h2⟩ := List.mem_filter.1 ht
        have h1 := List.mem_range.1 h1
        rw [show (k * 64 + t) / 64 = k by omega, show (k * 64 + t) % 64 = t by omega]
        exact ⟨by omega, by omega, h2⟩
      · exact ⟨by omega, by omega, h3⟩
    · rintro ⟨h1, h2, h3⟩
      by_cases h4 : i < (k + 1) * 64
      · refine .inl ⟨i % 64, List.mem_filter.2 ⟨List.mem_range.2 (by omega), ?_⟩, by omega⟩
        rw [show i / 64 = k by omega] at h3
        exact h3
      · exact .inr ⟨by omega, by omega, h3⟩
theorem restW_srt (W : Nat → BitVec 64) : ∀ n k, (restW W n k).Pairwise (· < ·)
  | 0, k => List.Pairwise.nil
  | n + 1, k => by
    rw [restW, List.pairwise_append]
    refine ⟨?_, restW_srt W n (k + 1), ?_⟩
    · rw [List.pairwise_map]
      have : (bl (W k)).Pairwise (· < ·) := List.Pairwise.filter _ List.pairwise_lt_range
      exact this.imp fun h => by omega
    · intro a ha b hb
      obtain ⟨t, ht, rfl⟩ := List.mem_map.1 ha
      have := List.mem_range.1 (List.mem_filter.1 ht).1
      have := ((restW_mem W n (k + 1) b).1 hb).1
      omega
/-- Two sorted lists with the same members are one. -/
theorem srt_eq : ∀ {l r : List Nat}, l.Pairwise (· < ·) → r.Pairwise (· < ·) → (∀ i, i ∈ l ↔ i ∈ r) → l = r
  | [], [], _, _, _ => rfl
  | [], b :: r, _, _, h => by have := (h b).2 (by simp); simp at this
  | a :: l, [], _, _, h => by have := (h a).1 (by simp); simp at this
  | a :: l, b :: r, hl, hr, h => by
    have ha := List.pairwise_cons.1 hl
    have hb := List.pairwise_cons.1 hr
    have e : a = b := by
      have h1 := (h a).1 (by simp)
      have h2 := (h b).2 (by simp)
      rcases List.mem_cons.1 h1 with rfl | h1
      · rfl
      · rcases List.mem_cons.1 h2 with h2 | h2
        · exact h2.symm
        · have := hb.1 _ h1; have := ha.1 _ h2; omega
    subst e
    rw [srt_eq ha.2 hb.2 fun i => ⟨fun hi => ?_, fun hi => ?_⟩]
    · rcases List.mem_cons.1 ((h i).1 (List.mem_cons_of_mem _ hi)) with rfl | h1
      · exact absurd (ha.1 _ hi) (by omega)
      · exact h1
    · rcases List.mem_cons.1 ((h i).2 (List.mem_cons_of_mem _ hi)) with rfl | h1
      · exact absurd (hb.1 _ hi) (by omega)
      · exact h1
end Go.Ev
