/- slices.SortFunc of spans at this program, out of the shelf's contract. Own work, after the shelf's walk at structs. -/
import Derived.Shelf.SlSortCmp.WholeK
import Derived.Shelf.SlSortCmp.NoneTotal
import Derived.Test.YtplnioclkacgkaaGreatDoorEvSrt
import Derived.Test.YtplnioclkacgkaaGreatDoorSpanA
import Derived.Test.YtplnioclkacgkaaGreatDoorProg
namespace Go.Proofs
open Go.RowKit Go.Sort Go.Shelf Go.Lib
def Tryz.sortF_ren : Ren := ⟨fun | 6 => 38 | 15 => 63 | 14 => 62 | 28 => 82 | 29 => 83 | 20 => 74 | 21 => 75 | 22 => 76 | 23 => 77 | 24 => 78 | 25 => 79 | 26 => 80 | 27 => 81 | 46 => 90 | 47 => 91 | 48 => 92 | 49 => 93 | 50 => 94 | 57 => 98 | n => n, fun | 22 => 23 | 24 => 32 | 25 => 69 | 3 => 3 | 39 => 96 | 0 => 0 | 53 => 112 | 55 => 30 | 4 => 4 | 46 => 105 | 45 => 104 | 50 => 109 | 5 => 5 | 9 => 9 | 66 => 116 | 70 => 120 | 76 => 123 | 77 => 98 | n => n, fun n => n⟩
theorem Tryz.sortF : SlLaysF0.n6 Tryz.prog Tryz.sortF_ren := {
  mixed := by kernel_rfl
  f6 := ⟨"slices.SortFunc[[]spence/api.Span,spence/api.Span]", by decide, Tryz.func38.trans (congrArg some (by kernel_rfl))⟩
  f14 := ⟨"slices.pdqsortCmpFunc[spence/api.Span]", by decide, Tryz.func62.trans (congrArg some (by kernel_rfl))⟩
  f15 := Tryz.func63.trans (congrArg some (by kernel_rfl))
  f20 := ⟨"slices.insertionSortCmpFunc[spence/api.Span]", by decide, Tryz.func74.trans (congrArg some (by kernel_rfl))⟩
  f21 := ⟨"slices.heapSortCmpFunc[spence/api.Span]", by decide, Tryz.func75.trans (congrArg some (by kernel_rfl))⟩
  f22 := ⟨"slices.breakPatternsCmpFunc[spence/api.Span]", by decide, Tryz.func76.trans (congrArg some (by kernel_rfl))⟩
  f23 := ⟨"slices.choosePivotCmpFunc[spence/api.Span]", by decide, Tryz.func77.trans (congrArg some (by kernel_rfl))⟩
  f24 := ⟨"slices.reverseRangeCmpFunc[spence/api.Span]", by decide, Tryz.func78.trans (congrArg some (by kernel_rfl))⟩
  f25 := ⟨"slices.partialInsertionSortCmpFunc[spence/api.Span]", by decide, Tryz.func79.trans (congrArg some (by kernel_rfl))⟩
  f26 := ⟨"slices.partitionEqualCmpFunc[spence/api.Span]", by decide, Tryz.func80.trans (congrArg some (by kernel_rfl))⟩
  f27 := ⟨"slices.partitionCmpFunc[spence/api.Span]", by decide, Tryz.func81.trans (congrArg some (by kernel_rfl))⟩
  f28 := Tryz.func82.trans (congrArg some (by kernel_rfl))
  f29 := Tryz.func83.trans (congrArg some (by kernel_rfl))
  f46 := ⟨"slices.siftDownCmpFunc[spence/api.Span]", by decide, Tryz.func90.trans (congrArg some (by kernel_rfl))⟩
  f47 := Tryz.func91.trans (congrArg some (by kernel_rfl))
  f48 := Tryz.func92.trans (congrArg some (by kernel_rfl))
  f49 := ⟨"slices.medianAdjacentCmpFunc[spence/api.Span]", by decide, Tryz.func93.trans (congrArg some (by kernel_rfl))⟩
  f50 := ⟨"slices.medianCmpFunc[spence/api.Span]", by decide, Tryz.func94.trans (congrArg some (by kernel_rfl))⟩
  f57 := ⟨"slices.order2CmpFunc[spence/api.Span]", by decide, Tryz.func98.trans (congrArg some (by kernel_rfl))⟩
  t0 := Tryz.underlying0
  a0 := Tryz.isAgg0
  z0 := Tryz.sizeOf0
  v0 := Tryz.zeroValue0
  t3 := Tryz.underlying3
  a3 := Tryz.isAgg3
  z3 := Tryz.sizeOf3
  v3 := Tryz.zeroValue3
  t4 := Tryz.underlying4
  a4 := Tryz.isAgg4
  z4 := Tryz.sizeOf4
  v4 := Tryz.zeroValue4
  t5 := Tryz.underlying5
  a5 := Tryz.isAgg5
  z5 := Tryz.sizeOf5
  v5 := Tryz.zeroValue5
  t9 := Tryz.underlying9
  a9 := Tryz.isAgg9
  z9 := Tryz.sizeOf9
  v9 := Tryz.zeroValue9
  t22 := Tryz.underlying23
  a22 := Tryz.isAgg23
  z22 := Tryz.sizeOf23
  v22 := Tryz.zeroValue23
  t25 := Tryz.underlying69
  a25 := Tryz.isAgg69
  z25 := Tryz.sizeOf69
  v25 := Tryz.zeroValue69
  t39 := Tryz.underlying96
  a39 := Tryz.isAgg96
  z39 := Tryz.sizeOf96
  v39 := Tryz.zeroValue96
  t45 := Tryz.underlying104
  a45 := Tryz.isAgg104
  z45 := Tryz.sizeOf104
  v45 := Tryz.zeroValue104
  t46 := Tryz.underlying105
  a46 := Tryz.isAgg105
  z46 := Tryz.sizeOf105
  v46 := Tryz.zeroValue105
  t50 := Tryz.underlying109
  a50 := Tryz.isAgg109
  z50 := Tryz.sizeOf109
  v50 := Tryz.zeroValue109
  t53 := Tryz.underlying112
  a53 := Tryz.isAgg112
  z53 := Tryz.sizeOf112
  v53 := Tryz.zeroValue112
  t55 := Tryz.underlying30
  a55 := Tryz.isAgg30
  z55 := Tryz.sizeOf30
  v55 := Tryz.zeroValue30
  t66 := Tryz.underlying116
  a66 := Tryz.isAgg116
  z66 := Tryz.sizeOf116
  v66 := Tryz.zeroValue116
  t70 := Tryz.underlying120
  a70 := Tryz.isAgg120
  z70 := Tryz.sizeOf120
  v70 := Tryz.zeroValue120
  t76 := Tryz.underlying123
  a76 := Tryz.isAgg123
  z76 := Tryz.sizeOf123
  v76 := Tryz.zeroValue123
  t77 := Tryz.underlying98
  a77 := Tryz.isAgg98
  z77 := Tryz.sizeOf98
  v77 := Tryz.zeroValue98 }
theorem spanSwo : SWO (ltOf spanC) where
  irrefl x := decide_eq_false (by unfold spanC; omega)
  trans x y z h1 h2 := by
    have h1 : x.1.1 - y.1.1 < 0 := of_decide_eq_true h1
    have h2 : y.1.1 - z.1.1 < 0 := of_decide_eq_true h2
    exact decide_eq_true (by unfold spanC; omega)
  ntrans x y z h1 h2 := by
    have h1 : ¬ x.1.1 - y.1.1 < 0 := of_decide_eq_false h1
    have h2 : ¬ y.1.1 - z.1.1 < 0 := of_decide_eq_false h2
    exact decide_eq_false (by unfold spanC; omega)
set_option maxHeartbeats 1000000 in
theorem Tryz.spanCmp (x y : SpA) (W : World) : Calls Tryz.prog 39 #[.agg #[.int .i64 x.1.1, .int .i64 x.1.2], .agg #[.int .i64 y.1.1, .int .i64 y.1.2]] W fun e w' => e = .returned (.int .i64 (spanC x y)) ∧ ∃ q os', w' = grow (W.drewN q) os' := by
  obtain ⟨⟨a, b⟩, hx⟩ := x
  obtain ⟨⟨c, d⟩, hy⟩ := y
  simp only at hx hy
  have hw : IntKind.i64.wrap (a - c) = a - c := Go.Ev.wr_id (by omega)
  simp only [spanC]
  generalize hr : a - c = r at hw ⊢
  go_enter Tryz.func39, Tryz.ntmps39
  go_wp2
  go_ret
  subst hr
  exact ⟨rfl, 0, _, by rw [alloc_eq_grow, alloc_eq_grow, grow_grow]; rfl⟩
def spanS (l : List SpA) : List SpA := Go.Ev.srtOf spanC l
theorem spanS_perm (l : List SpA) : (spanS l).Perm l := Go.Ev.srtOf_perm spanC spanSwo l
theorem spanS_sorted (l : List SpA) : (spanS l).Pairwise fun x y => x.1.1 ≤ y.1.1 :=
  (Go.Ev.srtOf_sorted spanC spanSwo l).imp fun {x y} h => by
    have h : ¬ y.1.1 - x.1.1 < 0 := of_decide_eq_false h
    omega
theorem Tryz.spanRow : Ev.SortsRow Tryz.prog spanE spanS 38 39 :=
  Go.Ev.sorts_row spanOk spanSwo (fun p cap fv w => AnyF.slices_SortFunc_none Tryz.sortF p cap fv w)
    (fun blk off cap d w hH hblk hsz => AnyQ.slices_SortFunc_eq Tryz.sortF 2 Tryz.isAgg32 Tryz.sizeOf32 spanE.cells (fun _ => rfl) (fun x v hv => by simp [spanE] at hv; rcases hv with rfl | rfl <;> rfl) spanC spanSwo 39 #[] blk off cap d w
      (enters_of Tryz.func39 (by kernel_rfl) rfl) (fun _ _ _ _ x y => Tryz.spanCmp x y _) hH hblk hsz)
theorem Tryz.sortN : Ev.CallSnd Tryz.prog (Ev.natSF spanE spanS 38 39) :=
  Ev.natSF_snd spanOk (fun l => (spanS_perm l).length_eq) ⟨_, Tryz.func38, by kernel_rfl, of_decide_eq_true (by kernel_rfl)⟩ Tryz.spanRow
end Go.Proofs
