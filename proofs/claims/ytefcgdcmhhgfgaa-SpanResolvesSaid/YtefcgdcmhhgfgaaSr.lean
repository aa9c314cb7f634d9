/- SpanResolves holds for every input. No conditions. -/
import Derived.Test.YtefcgdcmhhgfgaaRows
import Derived.Test.YtefcgdcmhhgfgaaSr0
import Derived.Test.YtefcgdcmhhgfgaaEvLaw
import Derived.ProofKit
namespace Go.Proofs.Ytefcgdcmhhgfgaa
open Go Go.ChangeShapes Go.WideShapes Go.ChangeAt Go.RowKit Go.Ev
theorem Try.own : ownKnob Try.prog.godebug = Option.none := by kernel_rfl
theorem Try.laidOut : laidOutB Try.prog = true := by kernel_rfl
theorem sh34 : shOf Try.prog 50 34 = some (.sl (.i .i64 (.i .i64 (.i .i64 .nil))) 24 .nil) := by kernel_rfl
theorem sh3 : shOf Try.prog 50 3 = some (.i .i64 .nil) := by kernel_rfl
theorem ok_n {l : List D} (h : Sh.ok .nil l) : l = [] := h
theorem ok_i {k : IntKind} {r : Sh} {l : List D} (h : Sh.ok (.i k r) l) : ∃ n t, l = .int k n :: t ∧ k.min ≤ n ∧ n ≤ k.max ∧ r.ok t := by
  cases l with
  | nil => exact h.elim
  | cons x l =>
    cases x with
    | int k' n => exact ⟨n, l, by rw [h.1], h.2⟩
    | _ => exact h.elim
theorem ok_sl {e : Sh} {n : Nat} {r : Sh} {l : List D} (h : Sh.ok (.sl e n r) l) : ∃ x xs t, l = x :: t ∧ Lst e.len xs x ∧ xs.length * n ≤ reachBytes ∧ (∀ q, q ∈ xs → e.ok q) ∧ r.ok t := by
  cases l with
  | nil => exact h.elim
  | cons x l =>
    obtain ⟨h1, h2⟩ := h
    rcases h1 with rfl | ⟨xs, rfl, h3, h4⟩
    · exact ⟨_, [], l, rfl, Lst.nil, by simp, fun q hq => absurd hq (by simp), h2⟩
    · exact ⟨_, xs, l, rfl, Lst.mk, h3, h4, h2⟩
theorem rows_map {α : Type} {e : Sh} {f : α → List D} {R : α → Prop} (h : ∀ q, e.ok q → ∃ a, q = f a ∧ R a) : ∀ {xs : List (List D)}, (∀ q, q ∈ xs → e.ok q) → ∃ l : List α, xs = l.map f ∧ ∀ a, a ∈ l → R a
  | [], _ => ⟨[], rfl, fun a ha => absurd ha (by simp)⟩
  | x :: xs, hx => by
    obtain ⟨a, ha1, ha⟩ := h x (hx x (by simp))
    obtain ⟨l, hl1, hl⟩ := rows_map h (xs := xs) (fun q hq => hx q (List.mem_cons_of_mem _ hq))
    subst ha1; subst hl1
    exact ⟨a :: l, rfl, fun b hb => by rcases List.mem_cons.1 hb with rfl | hb; exact ha; exact hl b hb⟩
theorem row_sp (q : List D) (h : Sh.ok (.i .i64 (.i .i64 (.i .i64 .nil))) q) : ∃ a : Sp, q = eS a ∧ True := by
  obtain ⟨a, _, rfl, _, _, h⟩ := ok_i h
  obtain ⟨b, _, rfl, _, _, h⟩ := ok_i h
  obtain ⟨c, _, rfl, _, _, h⟩ := ok_i h
  obtain rfl := ok_n h
  exact ⟨(a, b, c), rfl, trivial⟩
theorem params5 : Try.f5.params.toList = [34, 3] := by rw [Try.params5]
theorem argA_sl {P : Program} {t e : TypeId} (h : P.underlying t = some (.slice e)) (x : D) (l : List D) : argA P t (x :: l) = .d x := by simp only [argA, h, List.getD_cons_zero]
theorem argA_i {P : Program} {t : TypeId} {k : IntKind} (h : P.underlying t = some (.int k)) (x : D) (l : List D) : argA P t (x :: l) = .d x := by simp only [argA, h, List.getD_cons_zero]
theorem okAll_cons {P : Program} {t : TypeId} {ts : List TypeId} {sh : Sh} (hs : shOf P 50 t = some sh) {l : List (List D)} (h : OkAll P (t :: ts) l) : ∃ ds r, l = ds :: r ∧ sh.ok ds ∧ OkAll P ts r := by
  cases l with
  | nil => exact h.elim
  | cons ds r =>
    obtain ⟨⟨sh', h1, h2⟩, h3⟩ := h
    rw [hs] at h1; cases h1
    exact ⟨ds, r, rfl, h2, h3⟩
theorem okAll_nil {P : Program} {l : List (List D)} (h : OkAll P [] l) : l = [] := h
theorem sr_calls : ∀ dss, OkAll Try.prog Try.f5.params.toList dss → call Ir.ir 5 (argsA Try.prog Try.f5.params.toList dss) [] = some (.d (.bool true), []) := by
  intro dss h
  rw [params5] at h ⊢
  obtain ⟨_, _, rfl, h1, h⟩ := okAll_cons sh34 h
  obtain ⟨_, _, rfl, h2, h⟩ := okAll_cons sh3 h
  obtain rfl := okAll_nil h
  obtain ⟨x, xs, _, rfl, hx, hl, hq, h1⟩ := ok_sl h1
  obtain ⟨n, _, rfl, hn1, hn2, h2⟩ := ok_i h2
  obtain ⟨l, rfl, _⟩ := rows_map row_sp hq
  simp only [argsA, argA_sl Try.underlying34, argA_i Try.underlying3]
  exact t5 l (by simp [reachBytes] at hl; omega) x hx n
theorem sr_lifted (os : Os) (started : os.Started) (H : Type) (enc : TypeId × Value → H) :
    ReturnsInHanded {} Try.checked os 5 .any (Rows.spanResolvesSpec.pre6 enc Try.prog Try.f5 Rows.spanResolvesRow.domain false) (Rows.spanResolvesSpec.post enc Try.prog Try.f5 false true false false) := by
  refine returns_of (C := Try.checked) Try.own started (by kernel_rfl) Ir.tab Try.func5 Try.laidOut (tb := 4) (fn := Try.f5) (by kernel_rfl) Try.underlying4 rfl ?_ ?_ sr_calls true false
    (ChangeSpec.witness6 (enc := enc) (C := Try.checked) false ⟨#[], #[.slice Option.none 0 0, .int .i64 0], []⟩ 8 (by kernel_rfl) (by kernel_rfl) (by kernel_rfl) (by kernel_rfl))
  · intro ds hd
    have hd' : ds.length = 2 := hd
    match ds, hd' with
    | [_, _], _ => rfl
  · intro t ht
    have : t = 34 ∨ t = 3 := by
      have h2 : t ∈ Try.f5.params.toList := ht
      rw [params5] at h2; simpa using h2
    rcases this with rfl | rfl
    · exact ⟨⟨_, sh34⟩, by kernel_rfl, of_decide_eq_true (by kernel_rfl)⟩
    · exact ⟨⟨_, sh3⟩, by kernel_rfl, of_decide_eq_true (by kernel_rfl)⟩
theorem spanResolves_holds : Rows.SpanResolvesSaid :=
  OpenClaim.holds_of_wide 5 Try.f5 rfl rfl rfl rfl rfl rfl rfl ⟨rfl, rfl, rfl, rfl, rfl⟩ rfl rfl rfl rfl rfl (by kernel_rfl) Try.func5 (by kernel_rfl)
    (of_decide_eq_true (by kernel_rfl)) (by unfold Func.isWrapper; first | (rw [if_pos (by decide +kernel)]; kernel_rfl) | (rw [if_neg (by decide +kernel)]; exact ⟨rfl, rfl⟩))
    (fun os started H enc _ => sr_lifted os started H enc)
end Go.Proofs.Ytefcgdcmhhgfgaa
