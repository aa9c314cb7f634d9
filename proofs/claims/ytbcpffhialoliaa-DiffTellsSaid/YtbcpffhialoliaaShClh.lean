/- slices.Clone at what is held and at pieces, as functions that are known by a contract. Own work, after the shelf's walk. -/
import Derived.Shelf.SlicesE.Clone
import Derived.Test.YtbcpffhialoliaaEvNatC
import Derived.Test.YtbcpffhialoliaaProg
namespace Go.Proofs
open Go.RowKit Go.Shelf
set_option maxRecDepth 100000
theorem one_cell' {u : Value} (h : Ev.one u = true) : u.oneCell' = true := by cases u <;> first | rfl | (simp [Ev.one] at h)
theorem Try.cloneHNil (n c : Nat) (w : World) : Calls Try.prog 32 #[.slice none n c] w fun e w' => e = .returned (.slice none 0 0) ∧ w' = w := by
  have q22 : ∀ (w : World) (a : Option Addr) (n c n' c' : Nat), (binOp .eql 22 (.slice a n c) (.slice none n' c')).run Try.prog w = .ok (.bool a.isNone) w := fun w a n c n' c' => Lib.run_eql_slice_nil w _ _ a n c n' c' Try.underlying22
  go_enter Try.func32, Try.ntmps32
  go_wp2
  go_ret
  exact ⟨rfl, rfl⟩
theorem Try.cloneHInf : (Try.prog.info? 34).map (fun i => (i.zero.map (·.cells.size), i.size, i.bytes)) = some (some 6, 6, 72) := by kernel_rfl
set_option maxHeartbeats 2000000 in
theorem Try.cloneHAt (a : Addr) (n c : Nat) (news : List Value) (w : World) (hl : news.length = n * 6) (hn0 : n ≤ 1000000000) (hbig : n * 72 ≤ 140737488355328) (hc : ∀ j u, news[j]? = some u → w.cell? (a.add j) = some u) (h1 : ∀ u ∈ news, Ev.one u = true) :
    Calls Try.prog 32 #[.slice (some a) n c] w fun e w' => ∃ v', e = .returned v' ∧ w'.ownsRow w.heap.size 34 6 v' n news ∧ Below w.heap.size w w' := by
  have q22 : ∀ (w : World) (a : Option Addr) (n c n' c' : Nat), (binOp .eql 22 (.slice a n c) (.slice none n' c')).run Try.prog w = .ok (.bool a.isNone) w := fun w a n c n' c' => Lib.run_eql_slice_nil w _ _ a n c n' c' Try.underlying22
  have t22 := Try.underlying22
  have u22 : ∀ w, Sem.run Try.prog (underlying 22) w = .ok (TypeDesc.slice 34) w := run_underlying t22
  obtain ⟨i0, hi, hx⟩ := Option.map_eq_some_iff.1 Try.cloneHInf
  simp only [Prod.mk.injEq] at hx
  obtain ⟨hz0, hz1, hz2⟩ := hx
  obtain ⟨z0, hz0, hzs⟩ := Option.map_eq_some_iff.1 hz0
  have z23 : ∀ w, (Go.sizeOf 34).run Try.prog w = .ok 6 w := fun w => by rw [Ev.run_sizeOf hi, hz1]
  have hmx : n ≤ maxLen := by have : 1000000000 ≤ maxLen := by decide
                              omega
  have A : Aside (∀ j u, news[j]? = some u → w.cell? (a.add j) = some u) := hc
  clear hc
  go_enter Try.func32, Try.ntmps32
  go_wp2_with (at_builtin; refine wpList_append_own _ rfl _ _ 22 rfl w.heap.size 34 i0 z0 6 72 t22 hi hz0 hz1 hz2 hzs (by decide) _ _ _ rfl (World.ownsRow_made w #[] 0 (Nat.le_refl _) (Nat.zero_le _) (by simp)) a n c news rfl ?qc1 ?qc2 ?qc3 ?qc4 ?qc5 ?qc6 ?_)
  case qc1 => exact hl
  case qc2 =>
    intro j u hj
    exact Lib.cell?_alloc_some _ (A.out j u hj)
  case qc3 => exact fun u hu => one_cell' (h1 u hu)
  case qc4 => rw [Nat.zero_add]; exact hmx
  case qc5 => rw [Nat.zero_add]; exact hbig
  case qc6 => simp
  intro v' w1 hown hgrow hnil
  go_wp2
  go_ret
  refine ⟨v', rfl, by simpa using hown, ?_⟩
  exact ((Below.refl _ w).alloc (Nat.le_refl _) _).grown hgrow (by simp) (by intro k hk; simp [Value.ownBlock] at hk; omega)
theorem Try.cloneHN : Ev.CallSnd Try.prog (Ev.natSC 32 6 72) := Ev.natSC_snd (e := 34) ⟨_, Try.func32, by kernel_rfl, of_decide_eq_true (by kernel_rfl)⟩ Try.cloneHNil Try.cloneHAt
theorem Try.clonePNil (n c : Nat) (w : World) : Calls Try.prog 47 #[.slice none n c] w fun e w' => e = .returned (.slice none 0 0) ∧ w' = w := by
  have q22 : ∀ (w : World) (a : Option Addr) (n c n' c' : Nat), (binOp .eql 29 (.slice a n c) (.slice none n' c')).run Try.prog w = .ok (.bool a.isNone) w := fun w a n c n' c' => Lib.run_eql_slice_nil w _ _ a n c n' c' Try.underlying29
  go_enter Try.func47, Try.ntmps47
  go_wp2
  go_ret
  exact ⟨rfl, rfl⟩
theorem Try.clonePInf : (Try.prog.info? 39).map (fun i => (i.zero.map (·.cells.size), i.size, i.bytes)) = some (some 4, 4, 48) := by kernel_rfl
set_option maxHeartbeats 2000000 in
theorem Try.clonePAt (a : Addr) (n c : Nat) (news : List Value) (w : World) (hl : news.length = n * 4) (hn0 : n ≤ 1000000000) (hbig : n * 48 ≤ 140737488355328) (hc : ∀ j u, news[j]? = some u → w.cell? (a.add j) = some u) (h1 : ∀ u ∈ news, Ev.one u = true) :
    Calls Try.prog 47 #[.slice (some a) n c] w fun e w' => ∃ v', e = .returned v' ∧ w'.ownsRow w.heap.size 39 4 v' n news ∧ Below w.heap.size w w' := by
  have q22 : ∀ (w : World) (a : Option Addr) (n c n' c' : Nat), (binOp .eql 29 (.slice a n c) (.slice none n' c')).run Try.prog w = .ok (.bool a.isNone) w := fun w a n c n' c' => Lib.run_eql_slice_nil w _ _ a n c n' c' Try.underlying29
  have t22 := Try.underlying29
  have u22 : ∀ w, Sem.run Try.prog (underlying 29) w = .ok (TypeDesc.slice 39) w := run_underlying t22
  obtain ⟨i0, hi, hx⟩ := Option.map_eq_some_iff.1 Try.clonePInf
  simp only [Prod.mk.injEq] at hx
  obtain ⟨hz0, hz1, hz2⟩ := hx
  obtain ⟨z0, hz0, hzs⟩ := Option.map_eq_some_iff.1 hz0
  have z23 : ∀ w, (Go.sizeOf 39).run Try.prog w = .ok 4 w := fun w => by rw [Ev.run_sizeOf hi, hz1]
  have hmx : n ≤ maxLen := by have : 1000000000 ≤ maxLen := by decide
                              omega
  have A : Aside (∀ j u, news[j]? = some u → w.cell? (a.add j) = some u) := hc
  clear hc
  go_enter Try.func47, Try.ntmps47
  go_wp2_with (at_builtin; refine wpList_append_own _ rfl _ _ 29 rfl w.heap.size 39 i0 z0 4 48 t22 hi hz0 hz1 hz2 hzs (by decide) _ _ _ rfl (World.ownsRow_made w #[] 0 (Nat.le_refl _) (Nat.zero_le _) (by simp)) a n c news rfl ?qc1 ?qc2 ?qc3 ?qc4 ?qc5 ?qc6 ?_)
  case qc1 => exact hl
  case qc2 =>
    intro j u hj
    exact Lib.cell?_alloc_some _ (A.out j u hj)
  case qc3 => exact fun u hu => one_cell' (h1 u hu)
  case qc4 => rw [Nat.zero_add]; exact hmx
  case qc5 => rw [Nat.zero_add]; exact hbig
  case qc6 => simp
  intro v' w1 hown hgrow hnil
  go_wp2
  go_ret
  refine ⟨v', rfl, by simpa using hown, ?_⟩
  exact ((Below.refl _ w).alloc (Nat.le_refl _) _).grown hgrow (by simp) (by intro k hk; simp [Value.ownBlock] at hk; omega)
theorem Try.clonePN : Ev.CallSnd Try.prog (Ev.natSC 47 4 48) := Ev.natSC_snd (e := 39) ⟨_, Try.func47, by kernel_rfl, of_decide_eq_true (by kernel_rfl)⟩ Try.clonePNil Try.clonePAt
end Go.Proofs
