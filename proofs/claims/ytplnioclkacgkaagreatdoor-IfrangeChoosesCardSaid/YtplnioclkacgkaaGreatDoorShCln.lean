/- slices.Clone at this program's types, as functions that are known by a contract. Own work, after the shelf's walk. -/
import Derived.Shelf.SlicesE.Clone
import Derived.Test.YtplnioclkacgkaaGreatDoorEvNatC
import Derived.Test.YtplnioclkacgkaaGreatDoorProg
namespace Go.Proofs
open Go.RowKit Go.Shelf
set_option maxRecDepth 100000
theorem one_cell' {u : Value} (h : Ev.one u = true) : u.oneCell' = true := by cases u <;> first | rfl | (simp [Ev.one] at h)
theorem Tryz.cloneSNil (n c : Nat) (w : World) : Calls Tryz.prog 23 #[.slice none n c] w fun e w' => e = .returned (.slice none 0 0) ∧ w' = w := by
  have q22 : ∀ (w : World) (a : Option Addr) (n c n' c' : Nat), (binOp .eql 23 (.slice a n c) (.slice none n' c')).run Tryz.prog w = .ok (.bool a.isNone) w := fun w a n c n' c' => Lib.run_eql_slice_nil w _ _ a n c n' c' Tryz.underlying23
  go_enter Tryz.func23, Tryz.ntmps23
  go_wp2
  go_ret
  exact ⟨rfl, rfl⟩
theorem Tryz.cloneSInf : (Tryz.prog.info? 32).map (fun i => (i.zero.map (·.cells.size), i.size, i.bytes)) = some (some 2, 2, 16) := by kernel_rfl
set_option maxHeartbeats 2000000 in
theorem Tryz.cloneSAt (a : Addr) (n c : Nat) (news : List Value) (w : World) (hl : news.length = n * 2) (hn0 : n ≤ 1000000000) (hbig : n * 16 ≤ 140737488355328) (hc : ∀ j u, news[j]? = some u → w.cell? (a.add j) = some u) (h1 : ∀ u ∈ news, Ev.one u = true) :
    Calls Tryz.prog 23 #[.slice (some a) n c] w fun e w' => ∃ v', e = .returned v' ∧ w'.ownsRow w.heap.size 32 2 v' n news ∧ Below w.heap.size w w' := by
  have q22 : ∀ (w : World) (a : Option Addr) (n c n' c' : Nat), (binOp .eql 23 (.slice a n c) (.slice none n' c')).run Tryz.prog w = .ok (.bool a.isNone) w := fun w a n c n' c' => Lib.run_eql_slice_nil w _ _ a n c n' c' Tryz.underlying23
  have t22 := Tryz.underlying23
  have u22 : ∀ w, Sem.run Tryz.prog (underlying 23) w = .ok (TypeDesc.slice 32) w := run_underlying t22
  obtain ⟨i0, hi, hx⟩ := Option.map_eq_some_iff.1 Tryz.cloneSInf
  simp only [Prod.mk.injEq] at hx
  obtain ⟨hz0, hz1, hz2⟩ := hx
  obtain ⟨z0, hz0, hzs⟩ := Option.map_eq_some_iff.1 hz0
  have z23 : ∀ w, (Go.sizeOf 32).run Tryz.prog w = .ok 2 w := fun w => by rw [Ev.run_sizeOf hi, hz1]
  have hmx : n ≤ maxLen := by have : 1000000000 ≤ maxLen := by decide
                              omega
  have A : Aside (∀ j u, news[j]? = some u → w.cell? (a.add j) = some u) := hc
  clear hc
  go_enter Tryz.func23, Tryz.ntmps23
  go_wp2_with (at_builtin; refine wpList_append_own _ rfl _ _ 23 rfl w.heap.size 32 i0 z0 2 16 t22 hi hz0 hz1 hz2 hzs (by decide) _ _ _ rfl (World.ownsRow_made w #[] 0 (Nat.le_refl _) (Nat.zero_le _) (by simp)) a n c news rfl ?qc1 ?qc2 ?qc3 ?qc4 ?qc5 ?qc6 ?_)
  case qc1 => exact hl
  case qc2 =>
    intro j u hj
    exact Lib.cell?_alloc_some _ (A.out j u hj)
  case qc3 => exact fun u hu => one_cell' (h1 u hu)
  case qc4 => rw [Nat.zero_add]; exact hmx
  case qc5 => rw [Nat.zero_add]; exact hbig
  case qc6 => simp
  intro v' w1 hown hgrow hnil
  go_wp2
  go_ret
  refine ⟨v', rfl, by simpa using hown, ?_⟩
  exact ((Below.refl _ w).alloc (Nat.le_refl _) _).grown hgrow (by simp) (by intro k hk; simp [Value.ownBlock] at hk; omega)
theorem Tryz.cloneSN : Ev.CallSnd Tryz.prog (Ev.natSC 23 2 16) := Ev.natSC_snd (e := 32) ⟨_, Tryz.func23, by kernel_rfl, of_decide_eq_true (by kernel_rfl)⟩ Tryz.cloneSNil Tryz.cloneSAt
end Go.Proofs
