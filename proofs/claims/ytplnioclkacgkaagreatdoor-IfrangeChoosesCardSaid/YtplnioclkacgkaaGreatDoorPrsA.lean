/- Texts, plainly: blanks, cuts, pieces, numbers. Own work. -/
import Derived.Test.YtplnioclkacgkaaGreatDoorEvIR
namespace Go.Prs
open Go Go.Ev
set_option linter.unusedVariables false
set_option linter.unusedSimpArgs false
def isB (b : UInt8) : Bool := b == 32 || b == 9
def trimL (s : List UInt8) : List UInt8 := s.dropWhile isB
def trimR (s : List UInt8) : List UInt8 := (s.reverse.dropWhile isB).reverse
def trim (s : List UInt8) : List UInt8 := trimL (trimR s)
theorem trimR_snoc (l : List UInt8) (x : UInt8) : trimR (l ++ [x]) = if isB x then trimR l else l ++ [x] := by
  unfold trimR
  rw [List.reverse_append, List.reverse_singleton, List.singleton_append, List.dropWhile_cons]
  split
  · rfl
  · simp
theorem trimR_nil : trimR [] = [] := rfl
theorem trimL_cons (x : UInt8) (l : List UInt8) : trimL (x :: l) = if isB x then trimL l else x :: l := by
  unfold trimL; rw [List.dropWhile_cons]
theorem trimR_take {s : List UInt8} {n : Nat} (h : n < s.length) : trimR (s.take (n + 1)) = if isB s[n] then trimR (s.take n) else s.take (n + 1) := by
  rw [List.take_succ_eq_append_getElem h, trimR_snoc]
theorem trimL_drop {s : List UInt8} {n : Nat} (h : n < s.length) : trimL (s.drop n) = if isB s[n] then trimL (s.drop (n + 1)) else s.drop n := by
  rw [List.drop_eq_getElem_cons h, trimL_cons]
theorem trimR_len (s : List UInt8) : (trimR s).length ≤ s.length := by
  unfold trimR
  rw [List.length_reverse]
  have := (List.dropWhile_sublist isB (l := s.reverse)).length_le
  simpa using this
theorem trimL_len (s : List UInt8) : (trimL s).length ≤ s.length := (List.dropWhile_sublist isB).length_le
theorem trim_len (s : List UInt8) : (trim s).length ≤ s.length := Nat.le_trans (trimL_len _) (trimR_len _)

def cut (c : UInt8) : List UInt8 → List UInt8 × List UInt8 × Bool
  | [] => ([], [], false)
  | x :: s => if x = c then ([], s, true) else (x :: (cut c s).1, (cut c s).2.1, (cut c s).2.2)
theorem cut_len (c : UInt8) : ∀ s, (cut c s).1.length + (cut c s).2.1.length ≤ s.length
  | [] => Nat.le_refl _
  | x :: s => by
    have := cut_len c s
    unfold cut
    split
    · simp
    · simp; omega
theorem cut_rest_len {c : UInt8} : ∀ {s}, (cut c s).2.2 = true → (cut c s).1.length + (cut c s).2.1.length + 1 = s.length
  | [], h => by simp [cut] at h
  | x :: s, h => by
    unfold cut at h ⊢
    split
    · simp
    · rename_i hx
      rw [if_neg hx] at h
      have := cut_rest_len (s := s) h
      simp; omega
theorem cut_none {c : UInt8} : ∀ {s}, (cut c s).2.2 = false → (cut c s).1 = s ∧ (cut c s).2.1 = []
  | [], _ => ⟨rfl, rfl⟩
  | x :: s, h => by
    unfold cut at h ⊢
    split
    · rename_i hx; rw [if_pos hx] at h; simp at h
    · rename_i hx
      rw [if_neg hx] at h
      have := cut_none (s := s) h
      simp [this.1, this.2]
theorem cut_at {c : UInt8} : ∀ {s : List UInt8} {i : Nat} (hi : i < s.length), s[i] = c → (∀ j (hj : j < i), s[j] ≠ c) → cut c s = (s.take i, s.drop (i + 1), true)
  | x :: s, 0, _, h, _ => by simp at h; simp [cut, h]
  | x :: s, i + 1, hi, h, hn => by
    have h0 := hn 0 (by omega)
    simp at h0
    have ih := cut_at (s := s) (i := i) (by simpa using hi) (by simpa using h) (fun j hj => by have := hn (j + 1) (by omega); simpa using this)
    simp [cut, h0, ih]
theorem cut_no {c : UInt8} : ∀ {s : List UInt8}, (∀ j (hj : j < s.length), s[j] ≠ c) → cut c s = (s, [], false)
  | [], _ => rfl
  | x :: s, hn => by
    have h0 := hn 0 (by simp)
    simp at h0
    have ih := cut_no (s := s) (fun j hj => by have := hn (j + 1) (by simpa using hj); simpa using this)
    simp [cut, h0, ih]
theorem cut_app {c : UInt8} : ∀ {s t : List UInt8}, (∀ x ∈ s, x ≠ c) → cut c (s ++ c :: t) = (s, t, true)
  | [], t, _ => by simp [cut]
  | x :: s, t, h => by
    have ih := cut_app (s := s) (t := t) (fun y hy => h y (List.mem_cons_of_mem _ hy))
    have h0 := h x (List.mem_cons_self ..)
    simp [cut, h0, ih]
theorem cut_mem {c : UInt8} {s : List UInt8} (h : ∀ x ∈ s, x ≠ c) : cut c s = (s, [], false) := cut_no fun j hj => h _ (List.getElem_mem hj)

/-- A text cut at all commas. -/
def pcs : List UInt8 → List (List UInt8)
  | [] => [[]]
  | x :: s => if x = 44 then [] :: pcs s else match pcs s with
    | p :: ps => (x :: p) :: ps
    | [] => [[x]]
theorem pcs_ne (s : List UInt8) : pcs s ≠ [] := by
  cases s with
  | nil => simp [pcs]
  | cons x s =>
    unfold pcs
    split
    · simp
    · split <;> simp
theorem pcs_cut : ∀ s, pcs s = if (cut 44 s).2.2 then (cut 44 s).1 :: pcs (cut 44 s).2.1 else [(cut 44 s).1]
  | [] => rfl
  | x :: s => by
    have ih := pcs_cut s
    have e1 : pcs (x :: s) = if x = 44 then [] :: pcs s else match pcs s with | p :: ps => (x :: p) :: ps | [] => [[x]] := by rw [pcs]
    have e2 : cut 44 (x :: s) = if x = 44 then ([], s, true) else (x :: (cut 44 s).1, (cut 44 s).2.1, (cut 44 s).2.2) := by rw [cut]
    rw [e1, e2]
    by_cases hx : x = 44
    · rw [if_pos hx, if_pos hx]; simp
    · rw [if_neg hx, if_neg hx]
      simp only
      rw [ih]
      by_cases hc : (cut 44 s).2.2 = true
      · rw [if_pos hc, if_pos hc]
      · rw [if_neg hc, if_neg hc]
theorem pcs_len : ∀ s, (pcs s).length ≤ s.length + 1
  | [] => Nat.le_refl _
  | x :: s => by
    have := pcs_len s
    unfold pcs
    split
    · simp; omega
    · split
      · rename_i he; rw [he] at this; simp at this ⊢; omega
      · simp
theorem pcs_sum : ∀ s, ∀ p ∈ pcs s, p.length ≤ s.length
  | [], p, h => by simp [pcs] at h; simp [h]
  | x :: s, p, h => by
    have ih := pcs_sum s
    unfold pcs at h
    split at h
    · rcases List.mem_cons.1 h with rfl | h
      · simp
      · have := ih p h; simp; omega
    · split at h
      · rename_i q qs he
        rcases List.mem_cons.1 h with rfl | h
        · have := ih q (by rw [he]; exact List.mem_cons_self ..); simp; omega
        · have := ih p (by rw [he]; exact List.mem_cons_of_mem _ h); simp; omega
      · simp at h; subst h; simp
theorem pcs_mem {s : List UInt8} (h : ∀ x ∈ s, x ≠ 44) : pcs s = [s] := by
  rw [pcs_cut, cut_mem h]; rfl

/-- The elements of pieces; none: they are no list. -/
def els : Bool → List (List UInt8) → List (List UInt8) → Option (List (List UInt8))
  | _, [], out => some out
  | fst, p :: ps, out =>
    if trim p = [] then (if fst ∧ ps = [] ∧ p ≠ [] then none else els false ps out)
    else if (fst ∧ isB (p.getD 0 0)) ∨ (ps = [] ∧ isB (p.getD (p.length - 1) 0)) then none else els false ps (out ++ [trim p])

/-! ### numbers -/
def isD (b : UInt8) : Bool := decide (48 ≤ b.toNat) && decide (b.toNat ≤ 57)
def val : List UInt8 → Nat
  | [] => 0
  | x :: s => (x.toNat - 48) * 10 ^ s.length + val s
theorem val_lt : ∀ {s : List UInt8}, s.all isD = true → val s < 10 ^ s.length
  | [], _ => by simp [val]
  | x :: s, h => by
    simp only [List.all_cons, Bool.and_eq_true] at h
    have ih := val_lt h.2
    have hx : x.toNat - 48 ≤ 9 := by have := h.1; simp [isD] at this; omega
    simp only [val, List.length_cons, Nat.pow_succ]
    have := Nat.mul_le_mul_right (10 ^ s.length) hx
    omega
theorem val_snoc : ∀ (s : List UInt8) (x : UInt8), val (s ++ [x]) = 10 * val s + (x.toNat - 48)
  | [], x => by simp [val]
  | y :: s, x => by
    simp only [List.cons_append, val, val_snoc s x, List.length_append, List.length_singleton, Nat.pow_succ]
    rw [Nat.mul_add, ← Nat.add_assoc]
    congr 2
    rw [Nat.mul_comm (10 ^ s.length) 10, ← Nat.mul_assoc, ← Nat.mul_assoc, Nat.mul_comm 10]
theorem val_ge {x : UInt8} {s : List UInt8} (h : x ≠ 48) (hd : isD x = true) : 10 ^ s.length ≤ val (x :: s) := by
  have : 1 ≤ x.toNat - 48 := by
    have h2 : x.toNat ≠ 48 := fun e => h (UInt8.toNat_inj.1 e)
    simp [isD] at hd; omega
  have := Nat.mul_le_mul_right (10 ^ s.length) this
  simp only [val]; omega
/-- Without noughts ahead. -/
def bare (s : List UInt8) : List UInt8 := s.dropWhile (· == 48)
theorem bare_cons (x : UInt8) (s : List UInt8) : bare (x :: s) = if x = 48 then bare s else x :: s := by
  unfold bare
  rw [List.dropWhile_cons]
  simp
theorem val_bare : ∀ s, val (bare s) = val s
  | [] => rfl
  | x :: s => by
    rw [bare_cons]
    split
    · rename_i h; rw [val_bare s, val, h]; simp
    · rfl
theorem all_bare {s : List UInt8} (h : s.all isD = true) : (bare s).all isD = true := by
  rw [List.all_eq_true] at h ⊢
  exact fun x hx => h x (List.dropWhile_sublist _ |>.subset hx)
theorem bare_len (s : List UInt8) : (bare s).length ≤ s.length := (List.dropWhile_sublist _).length_le
theorem bare_head : ∀ s : List UInt8, bare s = [] ∨ ∃ x t, bare s = x :: t ∧ x ≠ 48
  | [] => .inl rfl
  | x :: s => by
    rw [bare_cons]
    split
    · exact bare_head s
    · rename_i h; exact .inr ⟨x, s, rfl, h⟩
theorem bytesLt_val : ∀ {x y : List UInt8}, x.length = y.length → x.all isD = true → y.all isD = true → bytesLt x y = decide (val x < val y)
  | [], [], _, _, _ => by simp [bytesLt, val]
  | [], b :: y, h, _, _ => by simp at h
  | a :: x, [], h, _, _ => by simp at h
  | a :: x, b :: y, h, hx, hy => by
    simp only [List.length_cons, Nat.add_right_cancel_iff] at h
    simp only [List.all_cons, Bool.and_eq_true] at hx hy
    have ih := bytesLt_val h hx.2 hy.2
    have vx := val_lt hx.2
    have vy := val_lt hy.2
    have da := hx.1; have db := hy.1
    simp [isD] at da db
    simp only [bytesLt, ih, val, h]
    rw [h] at vx
    generalize 10 ^ y.length = t at *
    by_cases h1 : a.toNat < b.toNat
    · have h2 : a < b := UInt8.lt_iff_toNat_lt.2 h1
      have h3 : (a.toNat - 48 + 1) * t ≤ (b.toNat - 48) * t := Nat.mul_le_mul_right t (by omega)
      rw [Nat.add_mul, Nat.one_mul] at h3
      simp only [h2, decide_true, Bool.true_or]
      symm; apply decide_eq_true; omega
    · have h2 : ¬ a < b := fun e => h1 (UInt8.lt_iff_toNat_lt.1 e)
      by_cases h4 : a = b
      · subst h4
        simp [h2]
      · have h5 : b.toNat < a.toNat := by
          have : a.toNat ≠ b.toNat := fun e => h4 (UInt8.toNat_inj.1 e)
          omega
        have h3 : (b.toNat - 48 + 1) * t ≤ (a.toNat - 48) * t := Nat.mul_le_mul_right t (by omega)
        rw [Nat.add_mul, Nat.one_mul] at h3
        have h6 : (a == b) = false := by simp [h4]
        simp only [h2, decide_false, Bool.false_or, h6, Bool.false_and]
        symm; apply decide_eq_false; omega
/-- Digits that tell less. -/
def lessB (x y : List UInt8) : Bool := decide ((bare x).length < (bare y).length) || (decide ((bare x).length = (bare y).length) && bytesLt (bare x) (bare y))
theorem lessB_val {x y : List UInt8} (hx : x.all isD = true) (hy : y.all isD = true) : lessB x y = decide (val x < val y) := by
  have bx := all_bare hx
  have by' := all_bare hy
  rw [← val_bare x, ← val_bare y]
  unfold lessB
  by_cases h1 : (bare x).length < (bare y).length
  · simp only [h1, decide_true, Bool.true_or]
    symm; apply decide_eq_true
    rcases bare_head y with h | ⟨c, t, h, hc⟩
    · rw [h] at h1; simp at h1
    · rw [h] at by' h1 ⊢
      simp only [List.all_cons, Bool.and_eq_true] at by'
      have g1 := val_ge (s := t) hc by'.1
      have g2 := val_lt bx
      have g3 : 10 ^ (bare x).length ≤ 10 ^ t.length := Nat.pow_le_pow_right (by omega) (by simpa using Nat.lt_succ_iff.1 h1)
      omega
  · simp only [h1, decide_false, Bool.false_or]
    by_cases h2 : (bare x).length = (bare y).length
    · simp only [h2, decide_true, Bool.true_and]
      exact bytesLt_val h2 bx by'
    · simp only [h2, decide_false, Bool.false_and]
      symm; apply decide_eq_false
      rcases bare_head x with h | ⟨c, t, h, hc⟩
      · rw [h] at h1 h2; simp at h1 h2; exact absurd (by simp [h1]) h2
      · rw [h] at bx h1 h2 ⊢
        simp only [List.all_cons, Bool.and_eq_true] at bx
        have g1 := val_ge (s := t) hc bx.1
        have g2 := val_lt by'
        have g3 : 10 ^ (bare y).length ≤ 10 ^ t.length := Nat.pow_le_pow_right (by omega) (by simp at h1 h2; omega)
        omega
/-- A number of digits, and the error's number. -/
def prs (s : List UInt8) : Int × Int := if s = [] ∨ s.all isD = false then (0, 3) else if 4611686018427387903 < val s then (0, 9) else (val s, 0)
def mxs : List UInt8 := [52, 54, 49, 49, 54, 56, 54, 48, 49, 56, 52, 50, 55, 51, 56, 55, 57, 48, 51]
theorem mxs_val : val mxs = 4611686018427387903 := by decide
theorem mxs_all : mxs.all isD = true := by decide
/-- The test by the length and the first digits. -/
theorem over_iff {t : List UInt8} (ht : t.all isD = true) (h1 : t.length = 1 ∨ ∃ x r, t = x :: r ∧ x ≠ 48) : (19 < t.length ∨ (t.length = 19 ∧ bytesLt mxs t = true)) ↔ 4611686018427387903 < val t := by
  have hl := val_lt ht
  by_cases h2 : 19 < t.length
  · refine ⟨fun _ => ?_, fun _ => .inl h2⟩
    rcases h1 with h1 | ⟨x, r, rfl, hx⟩
    · omega
    · simp only [List.all_cons, Bool.and_eq_true] at ht
      have := val_ge (s := r) hx ht.1
      have g3 : 10 ^ 19 ≤ 10 ^ r.length := Nat.pow_le_pow_right (by omega) (by simp at h2; omega)
      have : (10 : Nat) ^ 19 = 10000000000000000000 := rfl
      omega
  · by_cases h3 : t.length = 19
    · have := bytesLt_val (x := mxs) (y := t) (by rw [h3]; rfl) mxs_all ht
      rw [this, mxs_val]
      simp [h3]
    · have g3 : 10 ^ t.length ≤ 10 ^ 18 := Nat.pow_le_pow_right (by omega) (by omega)
      have : (10 : Nat) ^ 18 = 1000000000000000000 := rfl
      constructor
      · rintro (h | h)
        · omega
        · omega
      · intro h; omega
theorem trimR_pre (s : List UInt8) : s.take (trimR s).length = trimR s := by
  have h : trimR s <+: s := by
    unfold trimR
    rw [← List.reverse_suffix, List.reverse_reverse]
    exact List.dropWhile_suffix isB
  exact (List.prefix_iff_eq_take.1 h).symm
theorem trimL_suf (s : List UInt8) : s.drop (s.length - (trimL s).length) = trimL s := (List.suffix_iff_eq_drop.1 (List.dropWhile_suffix isB)).symm
def low (b : UInt8) : UInt8 := if 65 ≤ b.toNat ∧ b.toNat ≤ 90 then UInt8.ofNat (b.toNat + 32) else b
theorem low_up {b : UInt8} (h : 65 ≤ b.toNat ∧ b.toNat ≤ 90) : (low b).toNat = b.toNat + 32 := by
  unfold low; rw [if_pos h, UInt8.toNat_ofNat']; omega
theorem low_id {b : UInt8} (h : ¬ (65 ≤ b.toNat ∧ b.toNat ≤ 90)) : low b = b := by
  unfold low; rw [if_neg h]
theorem bytesLt_tot : ∀ x y : List UInt8, (!(bytesLt x y || x == y)) = bytesLt y x
  | [], [] => by simp [bytesLt]
  | [], b :: y => by simp [bytesLt]
  | a :: x, [] => by simp [bytesLt]
  | a :: x, b :: y => by
    have ih := bytesLt_tot x y
    simp only [bytesLt]
    by_cases h1 : a < b
    · have h2 : ¬ b < a := fun h => by have := UInt8.lt_iff_toNat_lt.1 h; have := UInt8.lt_iff_toNat_lt.1 h1; omega
      have h3 : ¬ b = a := fun h => by subst h; exact h2 h1
      simp [h1, h2, h3]
    · by_cases h4 : a = b
      · subst h4
        rw [← ih]; simp [h1]
      · have h2 : b < a := by
          have : a.toNat ≠ b.toNat := fun h => h4 (UInt8.toNat_inj.1 h)
          have : ¬ a.toNat < b.toNat := fun h => h1 (UInt8.lt_iff_toNat_lt.2 h)
          exact UInt8.lt_iff_toNat_lt.2 (by omega)
        simp [h1, h2, h4]

theorem pcs_cons (x : UInt8) (s : List UInt8) : pcs (x :: s) = if x = 44 then [] :: pcs s else match pcs s with | p :: ps => (x :: p) :: ps | [] => [[x]] := by rw [pcs]
/-- A byte more. -/
def putL (ps : List (List UInt8)) (x : UInt8) : List (List UInt8) := ps.set (ps.length - 1) (ps.getD (ps.length - 1) [] ++ [x])
theorem putL_cons (p q : List UInt8) (ps : List (List UInt8)) (x : UInt8) : putL (p :: q :: ps) x = p :: putL (q :: ps) x := by
  unfold putL
  simp
theorem putL_one (p : List UInt8) (x : UInt8) : putL [p] x = [p ++ [x]] := by simp [putL]
theorem pcs_snoc (x : UInt8) : ∀ l : List UInt8, pcs (l ++ [x]) = if x = 44 then pcs l ++ [[]] else putL (pcs l) x
  | [] => by
    rw [List.nil_append, pcs_cons]
    split
    · rfl
    · simp [pcs, putL_one]
  | y :: l => by
    have ih := pcs_snoc x l
    rw [List.cons_append, pcs_cons, pcs_cons, ih]
    obtain ⟨p, ps, hp⟩ : ∃ p ps, pcs l = p :: ps := by
      cases h : pcs l with
      | nil => exact absurd h (pcs_ne l)
      | cons p ps => exact ⟨p, ps, rfl⟩
    rw [hp]
    by_cases hy : y = 44
    · rw [if_pos hy, if_pos hy]
      by_cases hx : x = 44
      · rw [if_pos hx, if_pos hx]; rfl
      · rw [if_neg hx, if_neg hx, putL_cons]
    · rw [if_neg hy, if_neg hy]
      by_cases hx : x = 44
      · rw [if_pos hx, if_pos hx]; rfl
      · rw [if_neg hx, if_neg hx]
        cases ps with
        | nil => rw [putL_one]; simp [putL_one]
        | cons q ps => rw [putL_cons, putL_cons]
/-- Without noughts ahead, but for the last digit. -/
def strp : List UInt8 → List UInt8
  | [] => []
  | [x] => [x]
  | x :: y :: s => if x = 48 then strp (y :: s) else x :: y :: s
theorem strp_drop1 {s : List UInt8} {i : Nat} (h : i + 1 < s.length) : strp (s.drop i) = if s[i] = 48 then strp (s.drop (i + 1)) else s.drop i := by
  rw [List.drop_eq_getElem_cons (by omega : i < s.length), List.drop_eq_getElem_cons h]
  show (if s[i] = 48 then _ else _) = _
  rfl
theorem strp_drop2 {s : List UInt8} {i : Nat} (h : i < s.length) (h2 : ¬ i + 1 < s.length) : strp (s.drop i) = s.drop i := by
  rw [List.drop_eq_getElem_cons h, List.drop_eq_nil_of_le (by omega)]; rfl
theorem strp_val : ∀ s, val (strp s) = val s
  | [] => rfl
  | [x] => rfl
  | x :: y :: s => by
    unfold strp
    split
    · rename_i h
      rw [strp_val (y :: s)]
      conv => rhs; rw [val, h]
      simp
    · rfl
theorem strp_suf : ∀ s, strp s <:+ s
  | [] => List.suffix_rfl
  | [x] => List.suffix_rfl
  | x :: y :: s => by
    unfold strp
    split
    · exact (strp_suf (y :: s)).trans (List.suffix_cons x (y :: s))
    · exact List.suffix_rfl
theorem strp_len (s : List UInt8) : (strp s).length ≤ s.length := (strp_suf s).length_le
theorem strp_drop (s : List UInt8) : s.drop (s.length - (strp s).length) = strp s := (List.suffix_iff_eq_drop.1 (strp_suf s)).symm
theorem strp_all {s : List UInt8} (h : s.all isD = true) : (strp s).all isD = true := by
  rw [List.all_eq_true] at h ⊢
  exact fun x hx => h x ((strp_suf s).subset hx)
theorem strp_head : ∀ s : List UInt8, s ≠ [] → (strp s).length = 1 ∨ ∃ x r, strp s = x :: r ∧ x ≠ 48
  | [], h => absurd rfl h
  | [x], _ => .inl rfl
  | x :: y :: s, _ => by
    unfold strp
    split
    · exact strp_head (y :: s) (by simp)
    · rename_i h; exact .inr ⟨x, y :: s, rfl, h⟩
theorem val_take {t : List UInt8} {k : Nat} (hk : k < t.length) : val (t.take (k + 1)) = 10 * val (t.take k) + (t[k].toNat - 48) := by
  rw [List.take_succ_eq_append_getElem hk, val_snoc]
theorem val_take_le (t : List UInt8) (k : Nat) (hk : k ≤ t.length) : val (t.take k) ≤ val t := by
  by_cases h : k = t.length
  · rw [h, List.take_length]; exact Nat.le_refl _
  · have h1 := val_take (t := t) (k := k) (by omega)
    have := val_take_le t (k + 1) (by omega)
    omega
termination_by t.length - k

end Go.Prs
