/- One table of functions within another one: what the smaller one gives, the larger one gives. Own work. -/
import Derived.Test.YtpibecljdooilaaDoorEvLim
namespace Go.Ev
open Go
structure Ext (a b : IR) : Prop where
  fn : ∀ f fn, a.fn f = some fn → b.fn f = some fn
  nat : ∀ f x H r, a.fn f = none → a.nat f x H = some r → b.fn f = none ∧ b.nat f x H = some r
theorem fuel_ext {a b : IR} (h : Ext a b) : ∀ n, LeC (callN a n) (callN b n) ∧ LeL (loopN a n) (loopN b n)
  | 0 => ⟨fun f x H r he => by simp [callN] at he, fun L c s r he => by simp [loopN] at he⟩
  | n + 1 => by
    obtain ⟨h1, h2⟩ := fuel_ext h n
    refine ⟨fun f x H r he => ?_, fun L c s r he => ?_⟩
    · rw [callN] at he ⊢
      split at he
      · rename_i fn hf
        rw [h.fn f fn hf]
        exact evF_mono h1 h2 he
      · rename_i hf
        obtain ⟨e1, e2⟩ := h.nat f x H r hf he
        rw [e1]; exact e2
    · rw [loopN] at he ⊢
      split at he
      · rename_i hc; rw [evC_mono h1 h2 _ _ _ hc]; exact h2 _ _ _ _ he
      · rename_i hne
        rw [evC_mono h1 h2 _ _ _ he]
        obtain ⟨e, st⟩ := r
        cases e with
        | normal => exact absurd he (hne _)
        | exit => rfl
        | ret => rfl
theorem call_ext {a b : IR} (h : Ext a b) {f : FuncId} {x : List AV} {H : Heap} {r : AV × Heap} (he : call a f x H = some r) : call b f x H = some r := by
  obtain ⟨n, hn⟩ := call_inv he
  exact call_of ((fuel_ext h n).1 f x H r hn)
end Go.Ev
