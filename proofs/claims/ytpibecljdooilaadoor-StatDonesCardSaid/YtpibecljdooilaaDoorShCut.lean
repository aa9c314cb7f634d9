/- bytes.Cut at this program, out of the shelf's contracts. -/
import Derived.Shelf.Bytes.SlCut
import Derived.Test.YtpibecljdooilaaDoorEvNatW
import Derived.Test.YtpibecljdooilaaDoorProg
namespace Go.Proofs
open Go Go.RowKit Go.Shelf
set_option maxRecDepth 100000
def Tryd.cutA_ren : Ren := ⟨fun | 4 => 146 | 5 => 156 | 6 => 160 | 7 => 44 | 8 => 161 | 9 => 162 | 10 => 163 | 11 => 165 | 12 => 166 | n => n, fun | 22 => 25 | 4 => 4 | 3 => 3 | 0 => 0 | 5 => 5 | 29 => 183 | 9 => 9 | 31 => 231 | 30 => 214 | n => n, fun | 0 => 2 | n => n⟩
theorem Tryd.cutA : SlLaysT.n4 Tryd.prog Tryd.cutA_ren := {
  mixed := by kernel_rfl
  f4 := Tryd.func146.trans (congrArg some (by kernel_rfl))
  f5 := Tryd.func156.trans (congrArg some (by kernel_rfl))
  f6 := Tryd.func160.trans (congrArg some (by kernel_rfl))
  f7 := Tryd.func44.trans (congrArg some (by kernel_rfl))
  f8 := Tryd.func161.trans (congrArg some (by kernel_rfl))
  f9 := Tryd.func162.trans (congrArg some (by kernel_rfl))
  f10 := Tryd.func163.trans (congrArg some (by kernel_rfl))
  f11 := Tryd.func165.trans (congrArg some (by kernel_rfl))
  f12 := Tryd.func166.trans (congrArg some (by kernel_rfl))
  t0 := Tryd.underlying0
  a0 := Tryd.isAgg0
  z0 := Tryd.sizeOf0
  v0 := Tryd.zeroValue0
  t3 := Tryd.underlying3
  a3 := Tryd.isAgg3
  z3 := Tryd.sizeOf3
  v3 := Tryd.zeroValue3
  t4 := Tryd.underlying4
  a4 := Tryd.isAgg4
  z4 := Tryd.sizeOf4
  v4 := Tryd.zeroValue4
  t5 := Tryd.underlying5
  a5 := Tryd.isAgg5
  z5 := Tryd.sizeOf5
  v5 := Tryd.zeroValue5
  t9 := Tryd.underlying9
  a9 := Tryd.isAgg9
  z9 := Tryd.sizeOf9
  v9 := Tryd.zeroValue9
  t22 := Tryd.underlying25
  a22 := Tryd.isAgg25
  z22 := Tryd.sizeOf25
  v22 := Tryd.zeroValue25
  t29 := Tryd.underlying183
  a29 := Tryd.isAgg183
  z29 := Tryd.sizeOf183
  v29 := Tryd.zeroValue183
  t30 := Tryd.underlying214
  a30 := Tryd.isAgg214
  z30 := Tryd.sizeOf214
  v30 := Tryd.zeroValue214
  t31 := Tryd.underlying231
  a31 := Tryd.isAgg231
  z31 := Tryd.sizeOf231
  v31 := Tryd.zeroValue231
  g0 := by kernel_rfl }

theorem bcut_none (n c1 c2 : Nat) (a1 a2 : Option Addr) (w : World) (hn : 2 ≤ n) (hb : n ≤ 1000000000) : Calls Tryd.prog 146 #[.slice a1 0 c1, .slice a2 n c2] w fun e w' => e = .returned (Lib.cutV a1 0 c1 n (-1)) ∧ ∃ q, w' = w.drewN q := by
  refine Any.bytes_Cut_of Tryd.cutA a1 a2 0 c1 n c2 (-1) w (Nat.zero_le _) (by decide) (fun h => absurd h (by decide)) (by decide) ?_
  show Calls Tryd.prog 156 _ _ _
  have h0 : ¬ n = 0 := by omega
  have h1 : ¬ n = 1 := by omega
  have h2 : 0 < n := by omega
  go_enter Tryd.func156, Tryd.ntmps156
  go_wp2
  go_ret
  exact ⟨rfl, 0, rfl⟩
open Go.Ev in
theorem Tryd.cutN : CallSnd Tryd.prog (natCut 146) := natCut_snd ⟨_, Tryd.func146, by kernel_rfl, of_decide_eq_true (by kernel_rfl)⟩
  (fun s p a1 a2 c1 c2 w S hg hc ha hsz h1 h2 => by
    obtain ⟨m, hm⟩ := (hg.2 2 (by simp [glI])).2
    have hr : ∀ l : List UInt8, ∀ x ∈ intsB l, 0 ≤ x ∧ x < 256 := fun l x hx => by
      obtain ⟨b, _, rfl⟩ := List.mem_map.1 hx
      have := b.toNat_lt; omega
    have h := Any.bytes_Cut_all Tryd.cutA a1 a2 s.length c1 p.length c2 (intsB s) (intsB p) m w (by simp [intsB]) (by simp [intsB]) (hr s) (hr p) h1 h2 (fun e => absurd e ha) hc (by omega) (by omega) hm
    rw [bytes_ints, bytes_ints] at h
    exact h)
  (fun n c1 c2 a1 a2 w hn hb => bcut_none n c1 c2 a1 a2 w hn hb)
end Go.Proofs
