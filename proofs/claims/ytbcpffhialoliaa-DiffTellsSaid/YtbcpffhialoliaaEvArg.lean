/- Arguments as their rows say; loops by what they leave; arrays of numbers. Own work. -/
import Derived.Test.YtbcpffhialoliaaEvSim
import Derived.Test.YtbcpffhialoliaaEvLaw
namespace Go.Ev
open Go
set_option linter.unusedVariables false
set_option linter.unusedSimpArgs false
theorem ok_n {l : List D} (h : Sh.ok .nil l) : l = [] := h
theorem ok_b {r : Sh} {l : List D} (h : Sh.ok (.b r) l) : ∃ n t, l = .bool n :: t ∧ r.ok t := by
  cases l with
  | nil => exact h.elim
  | cons x l =>
    cases x with
    | bool n => exact ⟨n, l, rfl, h⟩
    | _ => exact h.elim
theorem ok_i {k : IntKind} {r : Sh} {l : List D} (h : Sh.ok (.i k r) l) : ∃ n t, l = .int k n :: t ∧ k.min ≤ n ∧ n ≤ k.max ∧ r.ok t := by
  cases l with
  | nil => exact h.elim
  | cons x l =>
    cases x with
    | int k' n => exact ⟨n, l, by rw [h.1], h.2⟩
    | _ => exact h.elim
theorem ok_s {r : Sh} {l : List D} (h : Sh.ok (.s r) l) : ∃ n t, l = .str n :: t ∧ n.length ≤ reachBytes ∧ r.ok t := by
  cases l with
  | nil => exact h.elim
  | cons x l =>
    cases x with
    | str n => exact ⟨n, l, rfl, h⟩
    | _ => exact h.elim
theorem ok_sl {e : Sh} {n : Nat} {r : Sh} {l : List D} (h : Sh.ok (.sl e n r) l) : ∃ xs t, l = .list e.len xs :: t ∧ xs.length * n ≤ reachBytes ∧ (∀ q, q ∈ xs → e.ok q) ∧ r.ok t := by
  cases l with
  | nil => exact h.elim
  | cons x l =>
    obtain ⟨⟨xs, rfl, h3, h4⟩, h2⟩ := h
    exact ⟨xs, l, rfl, h3, h4, h2⟩
theorem rows_map {α : Type} {e : Sh} {f : α → List D} {R : α → Prop} (h : ∀ q, e.ok q → ∃ a, q = f a ∧ R a) : ∀ {xs : List (List D)}, (∀ q, q ∈ xs → e.ok q) → ∃ l : List α, xs = l.map f ∧ ∀ a, a ∈ l → R a
  | [], _ => ⟨[], rfl, fun a ha => absurd ha (by simp)⟩
  | x :: xs, hx => by
    obtain ⟨a, ha1, ha⟩ := h x (hx x (by simp))
    obtain ⟨l, hl1, hl⟩ := rows_map h (xs := xs) (fun q hq => hx q (List.mem_cons_of_mem _ hq))
    subst ha1; subst hl1
    exact ⟨a :: l, rfl, fun b hb => by rcases List.mem_cons.1 hb with rfl | hb; exact ha; exact hl b hb⟩
theorem argA_sl {P : Program} {t e : TypeId} (h : P.underlying t = some (.slice e)) (x : D) (l : List D) : argA P t (x :: l) = .d x := by simp only [argA, h, List.getD_cons_zero]
theorem argA_i {P : Program} {t : TypeId} {k : IntKind} (h : P.underlying t = some (.int k)) (x : D) (l : List D) : argA P t (x :: l) = .d x := by simp only [argA, h, List.getD_cons_zero]
theorem argA_b {P : Program} {t : TypeId} (h : P.underlying t = some .bool) (x : D) (l : List D) : argA P t (x :: l) = .d x := by simp only [argA, h, List.getD_cons_zero]
theorem argA_s {P : Program} {t : TypeId} (h : P.underlying t = some .string) (x : D) (l : List D) : argA P t (x :: l) = .d x := by simp only [argA, h, List.getD_cons_zero]
theorem argA_st {P : Program} {t : TypeId} {fs : Array Field} (h : P.underlying t = some (.struct fs)) (l : List D) : argA P t l = .agg (l.map .d) := by simp only [argA, h]
theorem argA_ar {P : Program} {t e : TypeId} {n : Nat} (h : P.underlying t = some (.array n e)) (l : List D) : argA P t l = .agg (l.map .d) := by simp only [argA, h]
theorem okAll_cons {P : Program} {t : TypeId} {ts : List TypeId} {sh : Sh} (hs : shOf P 50 t = some sh) {l : List (List D)} (h : OkAll P (t :: ts) l) : ∃ ds r, l = ds :: r ∧ sh.ok ds ∧ OkAll P ts r := by
  cases l with
  | nil => exact h.elim
  | cons ds r =>
    obtain ⟨⟨sh', h1, h2⟩, h3⟩ := h
    rw [hs] at h1; cases h1
    exact ⟨ds, r, rfl, h2, h3⟩
theorem okAll_nil {P : Program} {l : List (List D)} (h : OkAll P [] l) : l = [] := h

/-! ### lists of data -/
theorem refsL_d : ∀ ds : List D, AV.refsL (ds.map .d) = []
  | [] => rfl
  | d :: ds => by rw [List.map_cons, AV.refsL, refsL_d ds]; rfl
theorem renL_d (f : Nat → Option Nat) (ds : List D) : AV.renL f (ds.map .d) = ds.map .d := by
  rw [renL_map, List.map_map]; exact List.map_congr_left fun d _ => rfl
theorem viewL_d (H : Heap) (ds : List D) : AV.viewL H (ds.map .d) = ds.map .d := by
  rw [viewL_map, List.map_map]; exact List.map_congr_left fun d _ => rfl
theorem ownsL_d : ∀ ds : List D, AV.ownsL (ds.map .d) = []
  | [] => rfl
  | d :: ds => by rw [List.map_cons, AV.ownsL, ownsL_d ds]; rfl
attribute [go_sem] Int.cast_ofNat_Int Int.natCast_one Int.natCast_zero ite_self refsL_d renL_d viewL_d ownsL_d boxOf_map plainD_map List.length_map

theorem two_both {α : Type} {p : Prop} [Decidable p] {x y : Unit → Option α} {r : Option α} (h1 : p → (p = True) → x () = r) (h2 : ¬p → (p = False) → y () = r) : two (.d (.bool (decide p))) x y = r :=
  two_cases (fun h => h1 h (eq_true h)) (fun h => h2 h (eq_false h))

/-! ### loops -/
theorem loop_rule {α σ : Type} {ir : IR} {L : List Nat} {c : C} {k : Ex → St → Option α} (enc : σ → St) (out : σ → Option α) (μ : σ → Nat)
    (h : ∀ s, (∀ s', μ s' < μ s → bnd (evC (call ir) (loop ir) c (enc s')) (lpC (call ir) (loop ir) L c k) = out s') → bnd (evC (call ir) (loop ir) c (enc s)) (lpC (call ir) (loop ir) L c k) = out s) (s : σ) :
    bnd (evC (call ir) (loop ir) c (enc s)) (lpC (call ir) (loop ir) L c k) = out s := by
  have key : ∀ n s, μ s < n → bnd (evC (call ir) (loop ir) c (enc s)) (lpC (call ir) (loop ir) L c k) = out s := by
    intro n
    induction n with
    | zero => intro s hs; omega
    | succ n ih => intro s hs; exact h s fun s' hs' => ih s' (by omega)
  exact key (μ s + 1) s (by omega)

/-! ### arithmetic -/
theorem wr_id {n : Int} (h : -9223372036854775808 ≤ n ∧ n ≤ 9223372036854775807) : wr .i64 n = n := by
  simp [wr, IntKind.wrap, IntKind.signed, IntKind.bits]
  omega
theorem wr_u64 {n : Int} (h : 0 ≤ n ∧ n ≤ 18446744073709551615) : wr .u64 n = n := by
  simp [wr, IntKind.wrap, IntKind.signed, IntKind.bits]
  omega
theorem wr_u8 {n : Int} (h : 0 ≤ n ∧ n ≤ 255) : wr .u8 n = n := by
  simp [wr, IntKind.wrap, IntKind.signed, IntKind.bits]
  omega
theorem wr_succ {i : Nat} (h : i < 9223372036854775807) : wr .i64 ((i : Int) + 1) = ((i + 1 : Nat) : Int) := by rw [wr_id (by omega)]; omega
theorem dec_eq {p q : Prop} [Decidable p] [Decidable q] {H : Heap} (h : p ↔ q) : (some (AV.d (D.bool (decide p)), H)) = some (.d (.bool (decide q)), H) := by simp [h]
theorem dec_f {q : Prop} [Decidable q] {H : Heap} (h : ¬q) : (some (AV.d (D.bool false), H)) = some (.d (.bool (decide q)), H) := by simp [h]
theorem dec_t {q : Prop} [Decidable q] {H : Heap} (h : q) : (some (AV.d (D.bool true), H)) = some (.d (.bool (decide q)), H) := by simp [h]

/-! ### arrays of numbers -/
def upd {α : Type} (f : Nat → α) (i : Nat) (v : α) : Nat → α := fun j => if j = i then v else f j
def arr (n : Nat) (f : Nat → D) : List D := (List.range n).map f
theorem arr_len (n : Nat) (f : Nat → D) : (arr n f).length = n := by simp [arr]
theorem arr_getD {n : Nat} {f : Nat → D} {i : Nat} (h : i < n) (d : D) : (arr n f).getD i d = f i := by simp [arr, List.getD_eq_getElem?_getD, h]
theorem arr_ext {n : Nat} {f g : Nat → D} (h : ∀ i, i < n → f i = g i) : arr n f = arr n g := by
  unfold arr
  exact List.map_congr_left fun i hi => h i (by simpa using hi)
theorem arr_put {n : Nat} {f : Nat → D} {i : Nat} (h : i < n) (v : D) : (arr n f).take i ++ [v] ++ (arr n f).drop (i + 1) = arr n (upd f i v) := by
  rw [List.append_assoc, List.singleton_append]
  apply List.ext_getElem?
  intro j
  by_cases hj : j < n
  · rcases Nat.lt_trichotomy j i with h1 | h1 | h1
    · rw [List.getElem?_append_left (by simp [arr]; omega)]
      simp [arr, upd, hj, h1, List.getElem?_take, Nat.ne_of_lt h1]
    · subst h1
      rw [List.getElem?_append_right (by simp [arr]; omega)]
      simp [arr, upd, hj, Nat.min_eq_left (Nat.le_of_lt h)]
    · rw [List.getElem?_append_right (by simp [arr]; omega)]
      simp only [List.length_take, arr_len, Nat.min_eq_left (Nat.le_of_lt h)]
      rw [show j - i = (j - i - 1) + 1 from by omega, List.getElem?_cons_succ, List.getElem?_drop, show i + 1 + (j - i - 1) = j from by omega]
      simp [arr, upd, hj, Nat.ne_of_gt h1]
  · rw [List.getElem?_eq_none (by simp [arr]; omega), List.getElem?_eq_none (by simp [arr]; omega)]
theorem arr_all (n : Nat) (f : Nat → D) : ((arr n f).drop 0).take n = arr n f := by simp [arr, List.take_of_length_le]
theorem arr_take (n : Nat) (f : Nat → D) : (arr n f).take n = arr n f := by simp [arr, List.take_of_length_le]
theorem arr_drop (n : Nat) (f : Nat → D) : (arr n f).drop n = [] := by simp [arr]
abbrev iarr (n : Nat) (g : Nat → Int) : List D := arr n fun i => .int .i64 (g i)
theorem upd_int (g : Nat → Int) (i : Nat) (v : Int) : upd (fun j => D.int .i64 (g j)) i (.int .i64 v) = fun j => D.int .i64 (upd g i v j) := by
  funext j; simp only [upd]; split <;> rfl
theorem plainD_arr (n : Nat) (f : Nat → D) : boxOf.plainD ((arr n f).map .d) = some (arr n f) := plainD_map _

/-! ### tables, rows of bytes -/
def tab {α : Type} (n : Nat) (f : Nat → α) : List α := (List.range n).map f
theorem tab_len {α : Type} (n : Nat) (f : Nat → α) : (tab n f).length = n := by simp [tab]
theorem tab_getD {α : Type} {n : Nat} {f : Nat → α} {i : Nat} (h : i < n) (d : α) : (tab n f).getD i d = f i := by simp [tab, List.getD_eq_getElem?_getD, h]
theorem tab_ext {α : Type} {n : Nat} {f g : Nat → α} (h : ∀ i, i < n → f i = g i) : tab n f = tab n g := by
  unfold tab
  exact List.map_congr_left fun i hi => h i (by simpa using hi)
theorem tab_set {α : Type} {n : Nat} {f : Nat → α} {i : Nat} (v : α) : (tab n f).set i v = tab n (upd f i v) := by
  apply List.ext_getElem?
  intro j
  rw [List.getElem?_set]
  by_cases hj : j < n
  · by_cases e : i = j
    · subst e; simp [tab, upd, hj]
    · rw [if_neg e]; simp [tab, upd, hj, Ne.symm e]
  · by_cases e : i = j
    · subst e; simp [tab, hj]
    · rw [if_neg e]; simp [tab, hj]
theorem tab_of {α : Type} (l : List α) (d : α) : l = tab l.length fun i => l.getD i d := by
  apply List.ext_getElem?
  intro j
  by_cases hj : j < l.length
  · simp [tab, hj, List.getD_eq_getElem?_getD]
  · simp [tab, hj]
def rB (b : List UInt8) : List (List D) := b.map fun c => [.int .u8 c.toNat]
theorem rB_len (b : List UInt8) : (rB b).length = b.length := by simp [rB]
theorem rB_app (a b : List UInt8) : rB (a ++ b) = rB a ++ rB b := by simp [rB]
theorem rB_getD {b : List UInt8} {i : Nat} (h : i < b.length) : (rB b).getD i [] = [.int .u8 (b.getD i 0).toNat] := by simp [rB, List.getD_eq_getElem?_getD, h]
theorem bytesOf_rB : ∀ b : List UInt8, evO.bytesOf (rB b) = some b
  | [] => rfl
  | c :: b => by
    have ih := bytesOf_rB b
    unfold rB at ih
    have h : (0 : Int) ≤ (c.toNat : Int) ∧ (c.toNat : Int) < 256 := ⟨by omega, by have := c.toNat_lt; omega⟩
    simp only [rB, List.map_cons, evO.bytesOf, ih, if_pos h, Int.toNat_natCast]
    congr 2
    simp
theorem b2s_own {H : Heap} {j : Nat} {b : List UInt8} {k : Bool} (h : H.getD j .dead = .arr 1 (rB b)) : b2sA H (.own j 1 0 b.length k) = some (.d (.str b)) := by
  have : tailA H 1 (.own j 1 0 b.length k) = some (rB b) := by
    simp only [tailA, h]
    rw [if_pos (by simp [rB_len])]
    rw [List.drop_zero, List.take_of_length_le (by rw [rB_len]; exact Nat.le_refl _)]
  simp only [b2sA, AV.asStr, this, bytesOf_rB]
theorem b2s_own0 (H : Heap) (b : List UInt8) (k : Bool) : b2sA (.arr 1 (rB b) :: H) (.own 0 1 0 b.length k) = some (.d (.str b)) := b2s_own rfl
theorem b2s_own1 (x : Blk) (H : Heap) (b : List UInt8) (k : Bool) : b2sA (x :: .arr 1 (rB b) :: H) (.own 1 1 0 b.length k) = some (.d (.str b)) := b2s_own rfl
theorem b2s_own2 (x y : Blk) (H : Heap) (b : List UInt8) (k : Bool) : b2sA (x :: y :: .arr 1 (rB b) :: H) (.own 2 1 0 b.length k) = some (.d (.str b)) := b2s_own rfl
theorem b2s_list (H : Heap) (b : List UInt8) : b2sA H (.d (.list 1 (rB b))) = some (.d (.str b)) := by
  simp only [b2sA, AV.asStr, tailA, if_true, bytesOf_rB]
attribute [go_sem] b2s_own0 b2s_own1 b2s_own2 b2s_list
theorem rows_eq {z : Nat} (l : List D) (h : l.length = z) : rows z 1 l = [l] := by simp [rows, List.take_of_length_le (Nat.le_of_eq h)]
end Go.Ev
