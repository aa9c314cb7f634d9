/- slices.SortFunc of changes and of what is held, by their objects, out of the shelf's contract. Own work, after the shelf's walk at structs. -/
import Derived.Shelf.SlSortCmp.WholeK
import Derived.Shelf.SlSortCmp.NoneTotal
import Derived.Shelf.SlicesG.Cmp
import Derived.Test.YtbcpffhialoliaaEvSrk
import Derived.Test.YtbcpffhialoliaaProg
namespace Go.Proofs
open Go.RowKit Go.Sort Go.Shelf Go.Lib
def Try.cmpInt_ren : Ren := ⟨fun | 5 => 23 | 7 => 44 | n => n, fun | 22 => 3 | 3 => 3 | 4 => 4 | n => n, fun n => n⟩
def Try.sortC_ren : Ren := ⟨fun | 6 => 21 | 15 => 43 | 14 => 42 | 28 => 61 | 29 => 62 | 20 => 53 | 21 => 54 | 22 => 55 | 23 => 56 | 24 => 57 | 25 => 58 | 26 => 59 | 27 => 60 | 46 => 74 | 47 => 75 | 48 => 76 | 49 => 77 | 50 => 78 | 57 => 84 | n => n, fun | 22 => 25 | 24 => 32 | 25 => 52 | 3 => 3 | 39 => 73 | 0 => 0 | 53 => 92 | 55 => 94 | 4 => 4 | 46 => 85 | 45 => 84 | 50 => 89 | 5 => 5 | 9 => 9 | 66 => 101 | 70 => 105 | 76 => 111 | 77 => 112 | n => n, fun n => n⟩
def Try.sortH_ren : Ren := ⟨fun | 6 => 37 | 15 => 43 | 14 => 52 | 28 => 61 | 29 => 62 | 20 => 66 | 21 => 67 | 22 => 68 | 23 => 69 | 24 => 70 | 25 => 71 | 26 => 72 | 27 => 73 | 46 => 81 | 47 => 75 | 48 => 76 | 49 => 82 | 50 => 83 | 57 => 94 | n => n, fun | 22 => 22 | 24 => 34 | 25 => 66 | 3 => 3 | 39 => 73 | 0 => 0 | 53 => 92 | 55 => 94 | 4 => 4 | 46 => 85 | 45 => 84 | 50 => 89 | 5 => 5 | 9 => 9 | 66 => 101 | 70 => 105 | 76 => 111 | 77 => 112 | n => n, fun n => n⟩
theorem Try.cmpInt : SlLaysC2.n5 Try.prog Try.cmpInt_ren := {
  mixed := by kernel_rfl
  f5 := ⟨"cmp.Compare[int]", by decide, Try.func23.trans (congrArg some (by kernel_rfl))⟩
  f7 := ⟨"cmp.isNaN[int]", by decide, Try.func44.trans (congrArg some (by kernel_rfl))⟩
  t3 := Try.underlying3
  a3 := Try.isAgg3
  z3 := Try.sizeOf3
  v3 := Try.zeroValue3
  t4 := Try.underlying4
  a4 := Try.isAgg4
  z4 := Try.sizeOf4
  v4 := Try.zeroValue4
  t22 := Try.underlying3
  a22 := Try.isAgg3
  z22 := Try.sizeOf3
  v22 := Try.zeroValue3 }
theorem Try.sortC : SlLaysF0.n6 Try.prog Try.sortC_ren := {
  mixed := by kernel_rfl
  f6 := ⟨"slices.SortFunc[[]spence/diff.Change,spence/diff.Change]", by decide, Try.func21.trans (congrArg some (by kernel_rfl))⟩
  f14 := ⟨"slices.pdqsortCmpFunc[spence/diff.Change]", by decide, Try.func42.trans (congrArg some (by kernel_rfl))⟩
  f15 := Try.func43.trans (congrArg some (by kernel_rfl))
  f20 := ⟨"slices.insertionSortCmpFunc[spence/diff.Change]", by decide, Try.func53.trans (congrArg some (by kernel_rfl))⟩
  f21 := ⟨"slices.heapSortCmpFunc[spence/diff.Change]", by decide, Try.func54.trans (congrArg some (by kernel_rfl))⟩
  f22 := ⟨"slices.breakPatternsCmpFunc[spence/diff.Change]", by decide, Try.func55.trans (congrArg some (by kernel_rfl))⟩
  f23 := ⟨"slices.choosePivotCmpFunc[spence/diff.Change]", by decide, Try.func56.trans (congrArg some (by kernel_rfl))⟩
  f24 := ⟨"slices.reverseRangeCmpFunc[spence/diff.Change]", by decide, Try.func57.trans (congrArg some (by kernel_rfl))⟩
  f25 := ⟨"slices.partialInsertionSortCmpFunc[spence/diff.Change]", by decide, Try.func58.trans (congrArg some (by kernel_rfl))⟩
  f26 := ⟨"slices.partitionEqualCmpFunc[spence/diff.Change]", by decide, Try.func59.trans (congrArg some (by kernel_rfl))⟩
  f27 := ⟨"slices.partitionCmpFunc[spence/diff.Change]", by decide, Try.func60.trans (congrArg some (by kernel_rfl))⟩
  f28 := Try.func61.trans (congrArg some (by kernel_rfl))
  f29 := Try.func62.trans (congrArg some (by kernel_rfl))
  f46 := ⟨"slices.siftDownCmpFunc[spence/diff.Change]", by decide, Try.func74.trans (congrArg some (by kernel_rfl))⟩
  f47 := Try.func75.trans (congrArg some (by kernel_rfl))
  f48 := Try.func76.trans (congrArg some (by kernel_rfl))
  f49 := ⟨"slices.medianAdjacentCmpFunc[spence/diff.Change]", by decide, Try.func77.trans (congrArg some (by kernel_rfl))⟩
  f50 := ⟨"slices.medianCmpFunc[spence/diff.Change]", by decide, Try.func78.trans (congrArg some (by kernel_rfl))⟩
  f57 := ⟨"slices.order2CmpFunc[spence/diff.Change]", by decide, Try.func84.trans (congrArg some (by kernel_rfl))⟩
  t0 := Try.underlying0
  a0 := Try.isAgg0
  z0 := Try.sizeOf0
  v0 := Try.zeroValue0
  t3 := Try.underlying3
  a3 := Try.isAgg3
  z3 := Try.sizeOf3
  v3 := Try.zeroValue3
  t4 := Try.underlying4
  a4 := Try.isAgg4
  z4 := Try.sizeOf4
  v4 := Try.zeroValue4
  t5 := Try.underlying5
  a5 := Try.isAgg5
  z5 := Try.sizeOf5
  v5 := Try.zeroValue5
  t9 := Try.underlying9
  a9 := Try.isAgg9
  z9 := Try.sizeOf9
  v9 := Try.zeroValue9
  t22 := Try.underlying25
  a22 := Try.isAgg25
  z22 := Try.sizeOf25
  v22 := Try.zeroValue25
  t25 := Try.underlying52
  a25 := Try.isAgg52
  z25 := Try.sizeOf52
  v25 := Try.zeroValue52
  t39 := Try.underlying73
  a39 := Try.isAgg73
  z39 := Try.sizeOf73
  v39 := Try.zeroValue73
  t45 := Try.underlying84
  a45 := Try.isAgg84
  z45 := Try.sizeOf84
  v45 := Try.zeroValue84
  t46 := Try.underlying85
  a46 := Try.isAgg85
  z46 := Try.sizeOf85
  v46 := Try.zeroValue85
  t50 := Try.underlying89
  a50 := Try.isAgg89
  z50 := Try.sizeOf89
  v50 := Try.zeroValue89
  t53 := Try.underlying92
  a53 := Try.isAgg92
  z53 := Try.sizeOf92
  v53 := Try.zeroValue92
  t55 := Try.underlying94
  a55 := Try.isAgg94
  z55 := Try.sizeOf94
  v55 := Try.zeroValue94
  t66 := Try.underlying101
  a66 := Try.isAgg101
  z66 := Try.sizeOf101
  v66 := Try.zeroValue101
  t70 := Try.underlying105
  a70 := Try.isAgg105
  z70 := Try.sizeOf105
  v70 := Try.zeroValue105
  t76 := Try.underlying111
  a76 := Try.isAgg111
  z76 := Try.sizeOf111
  v76 := Try.zeroValue111
  t77 := Try.underlying112
  a77 := Try.isAgg112
  z77 := Try.sizeOf112
  v77 := Try.zeroValue112 }
theorem Try.sortH : SlLaysF0.n6 Try.prog Try.sortH_ren := {
  mixed := by kernel_rfl
  f6 := ⟨"slices.SortFunc[[]spence/recovery.Held,spence/recovery.Held]", by decide, Try.func37.trans (congrArg some (by kernel_rfl))⟩
  f14 := ⟨"slices.pdqsortCmpFunc[spence/recovery.Held]", by decide, Try.func52.trans (congrArg some (by kernel_rfl))⟩
  f15 := Try.func43.trans (congrArg some (by kernel_rfl))
  f20 := ⟨"slices.insertionSortCmpFunc[spence/recovery.Held]", by decide, Try.func66.trans (congrArg some (by kernel_rfl))⟩
  f21 := ⟨"slices.heapSortCmpFunc[spence/recovery.Held]", by decide, Try.func67.trans (congrArg some (by kernel_rfl))⟩
  f22 := ⟨"slices.breakPatternsCmpFunc[spence/recovery.Held]", by decide, Try.func68.trans (congrArg some (by kernel_rfl))⟩
  f23 := ⟨"slices.choosePivotCmpFunc[spence/recovery.Held]", by decide, Try.func69.trans (congrArg some (by kernel_rfl))⟩
  f24 := ⟨"slices.reverseRangeCmpFunc[spence/recovery.Held]", by decide, Try.func70.trans (congrArg some (by kernel_rfl))⟩
  f25 := ⟨"slices.partialInsertionSortCmpFunc[spence/recovery.Held]", by decide, Try.func71.trans (congrArg some (by kernel_rfl))⟩
  f26 := ⟨"slices.partitionEqualCmpFunc[spence/recovery.Held]", by decide, Try.func72.trans (congrArg some (by kernel_rfl))⟩
  f27 := ⟨"slices.partitionCmpFunc[spence/recovery.Held]", by decide, Try.func73.trans (congrArg some (by kernel_rfl))⟩
  f28 := Try.func61.trans (congrArg some (by kernel_rfl))
  f29 := Try.func62.trans (congrArg some (by kernel_rfl))
  f46 := ⟨"slices.siftDownCmpFunc[spence/recovery.Held]", by decide, Try.func81.trans (congrArg some (by kernel_rfl))⟩
  f47 := Try.func75.trans (congrArg some (by kernel_rfl))
  f48 := Try.func76.trans (congrArg some (by kernel_rfl))
  f49 := ⟨"slices.medianAdjacentCmpFunc[spence/recovery.Held]", by decide, Try.func82.trans (congrArg some (by kernel_rfl))⟩
  f50 := ⟨"slices.medianCmpFunc[spence/recovery.Held]", by decide, Try.func83.trans (congrArg some (by kernel_rfl))⟩
  f57 := ⟨"slices.order2CmpFunc[spence/recovery.Held]", by decide, Try.func94.trans (congrArg some (by kernel_rfl))⟩
  t0 := Try.underlying0
  a0 := Try.isAgg0
  z0 := Try.sizeOf0
  v0 := Try.zeroValue0
  t3 := Try.underlying3
  a3 := Try.isAgg3
  z3 := Try.sizeOf3
  v3 := Try.zeroValue3
  t4 := Try.underlying4
  a4 := Try.isAgg4
  z4 := Try.sizeOf4
  v4 := Try.zeroValue4
  t5 := Try.underlying5
  a5 := Try.isAgg5
  z5 := Try.sizeOf5
  v5 := Try.zeroValue5
  t9 := Try.underlying9
  a9 := Try.isAgg9
  z9 := Try.sizeOf9
  v9 := Try.zeroValue9
  t22 := Try.underlying22
  a22 := Try.isAgg22
  z22 := Try.sizeOf22
  v22 := Try.zeroValue22
  t25 := Try.underlying66
  a25 := Try.isAgg66
  z25 := Try.sizeOf66
  v25 := Try.zeroValue66
  t39 := Try.underlying73
  a39 := Try.isAgg73
  z39 := Try.sizeOf73
  v39 := Try.zeroValue73
  t45 := Try.underlying84
  a45 := Try.isAgg84
  z45 := Try.sizeOf84
  v45 := Try.zeroValue84
  t46 := Try.underlying85
  a46 := Try.isAgg85
  z46 := Try.sizeOf85
  v46 := Try.zeroValue85
  t50 := Try.underlying89
  a50 := Try.isAgg89
  z50 := Try.sizeOf89
  v50 := Try.zeroValue89
  t53 := Try.underlying92
  a53 := Try.isAgg92
  z53 := Try.sizeOf92
  v53 := Try.zeroValue92
  t55 := Try.underlying94
  a55 := Try.isAgg94
  z55 := Try.sizeOf94
  v55 := Try.zeroValue94
  t66 := Try.underlying101
  a66 := Try.isAgg101
  z66 := Try.sizeOf101
  v66 := Try.zeroValue101
  t70 := Try.underlying105
  a70 := Try.isAgg105
  z70 := Try.sizeOf105
  v70 := Try.zeroValue105
  t76 := Try.underlying111
  a76 := Try.isAgg111
  z76 := Try.sizeOf111
  v76 := Try.zeroValue111
  t77 := Try.underlying112
  a77 := Try.isAgg112
  z77 := Try.sizeOf112
  v77 := Try.zeroValue112 }
set_option maxHeartbeats 1000000 in
theorem Try.chgCmp (x y : Ev.RowA 10 Ev.good0) (W : World) : Calls Try.prog 22 #[.agg x.1.toArray, .agg y.1.toArray] W fun e w' => e = .returned (.int .i64 (Ev.cmpI (Ev.kv0 x.1) (Ev.kv0 y.1))) ∧ ∃ q os', w' = grow (W.drewN q) os' := by
  obtain ⟨xs, hx, _, n, hn⟩ := x
  obtain ⟨ys, hy, _, m, hm⟩ := y
  have kx : Ev.kv0 xs = n := by unfold Ev.kv0; rw [hn]
  have ky : Ev.kv0 ys = m := by unfold Ev.kv0; rw [hm]
  rw [kx, ky, ← Ev.compareI]
  have hcon := fun W' => AnyG.cmp_Compare_int Try.cmpInt n m W'
  change ∀ W', Calls Try.prog 23 _ _ _ at hcon
  generalize Lib.compareInt n m = r at hcon ⊢
  match xs, hx with
  | [a0, a1, a2, a3, a4, a5, a6, a7, a8, a9], _ =>
    match ys, hy with
    | [b0, b1, b2, b3, b4, b5, b6, b7, b8, b9], _ =>
      obtain rfl : a0 = .int .i64 n := hn
      obtain rfl : b0 = .int .i64 m := hm
      go_enter Try.func22, Try.ntmps22
      go_wp2_with (go_at_call 23; refine (hcon _).mono ?_; rintro e w' ⟨rfl, rfl⟩)
      go_ret
      exact ⟨rfl, 0, _, by rw [alloc_eq_grow, alloc_eq_grow, grow_grow]; rfl⟩
set_option maxHeartbeats 1000000 in
theorem Try.heldCmp (x y : Ev.RowA 6 Ev.good0) (W : World) : Calls Try.prog 38 #[.agg x.1.toArray, .agg y.1.toArray] W fun e w' => e = .returned (.int .i64 (Ev.cmpI (Ev.kv0 x.1) (Ev.kv0 y.1))) ∧ ∃ q os', w' = grow (W.drewN q) os' := by
  obtain ⟨xs, hx, _, n, hn⟩ := x
  obtain ⟨ys, hy, _, m, hm⟩ := y
  have kx : Ev.kv0 xs = n := by unfold Ev.kv0; rw [hn]
  have ky : Ev.kv0 ys = m := by unfold Ev.kv0; rw [hm]
  rw [kx, ky, ← Ev.compareI]
  have hcon := fun W' => AnyG.cmp_Compare_int Try.cmpInt n m W'
  change ∀ W', Calls Try.prog 23 _ _ _ at hcon
  generalize Lib.compareInt n m = r at hcon ⊢
  match xs, hx with
  | [a0, a1, a2, a3, a4, a5], _ =>
    match ys, hy with
    | [b0, b1, b2, b3, b4, b5], _ =>
      obtain rfl : a0 = .int .i64 n := hn
      obtain rfl : b0 = .int .i64 m := hm
      go_enter Try.func38, Try.ntmps38
      go_wp2_with (go_at_call 23; refine (hcon _).mono ?_; rintro e w' ⟨rfl, rfl⟩)
      go_ret
      exact ⟨rfl, 0, _, by rw [alloc_eq_grow, alloc_eq_grow, grow_grow]; rfl⟩
theorem Try.rowC : Ev.SortsK Try.prog 10 Ev.kd0 Ev.kv0 Ev.good0 21 22 :=
  Ev.sorts_rowK (Ev.rel0 (by decide)) (fun p cap fv w => AnyF.slices_SortFunc_none Try.sortC p cap fv w)
    (fun inst blk off cap d w hH hblk hsz => AnyQ.slices_SortFunc_eq Try.sortC 10 Try.isAgg32 Try.sizeOf32 (fun x : Ev.RowA 10 Ev.good0 => x.1) (fun x => x.2.1) (fun x v hv => x.2.2.1 v hv) (fun x y => Ev.cmpI (Ev.kv0 x.1) (Ev.kv0 y.1)) (Ev.swoK Ev.kv0) 22 #[] blk off cap d w
      (enters_of Try.func22 (by kernel_rfl) rfl) (fun _ _ _ _ x y => Try.chgCmp x y _) hH hblk hsz)
theorem Try.sortCN : Ev.CallSnd Try.prog (Ev.natSK 10 Ev.kd0 21 22) :=
  Ev.natSK_snd ⟨_, Try.func21, by kernel_rfl, of_decide_eq_true (by kernel_rfl)⟩ Try.rowC
theorem Try.rowH : Ev.SortsK Try.prog 6 Ev.kd0 Ev.kv0 Ev.good0 37 38 :=
  Ev.sorts_rowK (Ev.rel0 (by decide)) (fun p cap fv w => AnyF.slices_SortFunc_none Try.sortH p cap fv w)
    (fun inst blk off cap d w hH hblk hsz => AnyQ.slices_SortFunc_eq Try.sortH 6 Try.isAgg34 Try.sizeOf34 (fun x : Ev.RowA 6 Ev.good0 => x.1) (fun x => x.2.1) (fun x v hv => x.2.2.1 v hv) (fun x y => Ev.cmpI (Ev.kv0 x.1) (Ev.kv0 y.1)) (Ev.swoK Ev.kv0) 38 #[] blk off cap d w
      (enters_of Try.func38 (by kernel_rfl) rfl) (fun _ _ _ _ x y => Try.heldCmp x y _) hH hblk hsz)
theorem Try.sortHN : Ev.CallSnd Try.prog (Ev.natSK 6 Ev.kd0 37 38) :=
  Ev.natSK_snd ⟨_, Try.func37, by kernel_rfl, of_decide_eq_true (by kernel_rfl)⟩ Try.rowH
end Go.Proofs
