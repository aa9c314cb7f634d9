/- multi.why: the walk. Own work. -/
import Derived.Test.YtpibecljdooilaaDoorShAs
import Derived.Test.YtpibecljdooilaaDoorEvNatW
import Derived.BigCall
namespace Go.Proofs
open Go Go.RowKit Go.Ev
set_option maxRecDepth 100000
theorem why_nil (w : World) : Calls Tryd.prog 43 #[.nilIface] w fun e w' => e = .returned (.int .i64 0) ∧ Below w.heap.size w w' := by
  go_enter Tryd.func43, Tryd.ntmps43
  go_wp2_with (first | (go_at_call 73; refine (as_nil _ _).mono ?_; rintro e w1 ⟨rfl, rfl⟩))
  go_ret
  exact ⟨rfl, (Below.refl _ w).alloc (Nat.le_refl _) _⟩
theorem why_hit (n : Int) (w : World) (hg : w.cell? ⟨1, 0, none⟩ = some (.iface 188 (.agg #[.pointer (some ⟨5, 80, none⟩)]))) :
    Calls Tryd.prog 43 #[.iface 127 (.agg #[.int .i64 n])] w fun e w' => e = .returned (.int .i64 n) ∧ Below w.heap.size w w' := by
  go_enter Tryd.func43, Tryd.ntmps43
  have hlt : 1 < w.heap.size := by
    rcases Nat.lt_or_ge 1 w.heap.size with h | h
    · exact h
    · simp [World.cell?, Array.getElem?_eq_none h] at hg
  go_wp2_with (first | (go_at_call 73; refine (as_hit n ⟨w.heap.size, 0, none⟩ (.int .i64 0) _ (by rw [World.cell?_alloc_lt _ _ ⟨1, 0, none⟩ hlt]; exact hg) (by simp) (by simp)).mono ?_; rintro e w1 ⟨rfl, rfl⟩))
  go_ret
  refine ⟨rfl, ?_⟩
  have b0 := Below.refl w.heap.size w
  have b1 := b0.alloc b0.size (.cells #[.int .i64 n] 127)
  have b2 := b1.alloc b1.size (.cells #[.pointer (some ⟨w.heap.size, 0, none⟩)] 129)
  have b3 := b2.alloc b2.size (.cells #[.pointer (some ⟨5, 129, none⟩), .pointer (some ⟨w.heap.size + 1, 0, none⟩), .int .u64 150] 160)
  have b4 := b3.alloc b3.size (.cells #[.pointer (some ⟨5, 129, none⟩), .pointer (some ⟨w.heap.size + 1, 0, none⟩), .int .u64 150] 160)
  exact b4.alloc b4.size (.cells #[.int .i64 n] 127)
theorem Tryd.whyN : CallSnd Tryd.prog (natWhy 43 127) := natWhy_snd ⟨_, Tryd.func43, by kernel_rfl, of_decide_eq_true (by kernel_rfl)⟩
  (fun w S _ => why_nil w) (fun n w S hg => why_hit n w (by
    have h := (hg.1 (1, [.iface 188 (.agg #[.pointer (some ⟨5, 80, none⟩)])]) (by simp [glT])).2 0 (by simp)
    exact h))
end Go.Proofs
