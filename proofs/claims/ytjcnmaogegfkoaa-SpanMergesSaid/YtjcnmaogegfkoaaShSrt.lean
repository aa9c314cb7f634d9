/- slices.SortFunc of spans at this program, out of the shelf's contract. Own work, after the shelf's walk at structs. -/
import Derived.Shelf.SlSortCmp.WholeK
import Derived.Shelf.SlSortCmp.NoneTotal
import Derived.Test.YtjcnmaogegfkoaaEvSrt
import Derived.Test.YtjcnmaogegfkoaaSpanA
import Derived.Test.YtjcnmaogegfkoaaProg
namespace Go.Proofs
open Go.RowKit Go.Sort Go.Shelf Go.Lib
def Try.sortF_ren : Ren := ⟨fun | 6 => 18 | 15 => 28 | 14 => 27 | 28 => 37 | 29 => 38 | 20 => 29 | 21 => 30 | 22 => 31 | 23 => 32 | 24 => 33 | 25 => 34 | 26 => 35 | 27 => 36 | 46 => 39 | 47 => 40 | 48 => 41 | 49 => 42 | 50 => 43 | 57 => 44 | n => n, fun | 22 => 22 | 24 => 24 | 25 => 40 | 3 => 3 | 39 => 49 | 0 => 0 | 53 => 59 | 55 => 61 | 4 => 4 | 46 => 52 | 45 => 51 | 50 => 56 | 5 => 5 | 9 => 9 | 66 => 62 | 70 => 66 | 76 => 68 | 77 => 69 | n => n, fun n => n⟩
theorem Try.sortF : SlLaysF0.n6 Try.prog Try.sortF_ren := {
  mixed := by kernel_rfl
  f6 := ⟨"slices.SortFunc[[]spence/api.Span,spence/api.Span]", by decide, Try.func18.trans (congrArg some (by kernel_rfl))⟩
  f14 := ⟨"slices.pdqsortCmpFunc[spence/api.Span]", by decide, Try.func27.trans (congrArg some (by kernel_rfl))⟩
  f15 := Try.func28.trans (congrArg some (by kernel_rfl))
  f20 := ⟨"slices.insertionSortCmpFunc[spence/api.Span]", by decide, Try.func29.trans (congrArg some (by kernel_rfl))⟩
  f21 := ⟨"slices.heapSortCmpFunc[spence/api.Span]", by decide, Try.func30.trans (congrArg some (by kernel_rfl))⟩
  f22 := ⟨"slices.breakPatternsCmpFunc[spence/api.Span]", by decide, Try.func31.trans (congrArg some (by kernel_rfl))⟩
  f23 := ⟨"slices.choosePivotCmpFunc[spence/api.Span]", by decide, Try.func32.trans (congrArg some (by kernel_rfl))⟩
  f24 := ⟨"slices.reverseRangeCmpFunc[spence/api.Span]", by decide, Try.func33.trans (congrArg some (by kernel_rfl))⟩
  f25 := ⟨"slices.partialInsertionSortCmpFunc[spence/api.Span]", by decide, Try.func34.trans (congrArg some (by kernel_rfl))⟩
  f26 := ⟨"slices.partitionEqualCmpFunc[spence/api.Span]", by decide, Try.func35.trans (congrArg some (by kernel_rfl))⟩
  f27 := ⟨"slices.partitionCmpFunc[spence/api.Span]", by decide, Try.func36.trans (congrArg some (by kernel_rfl))⟩
  f28 := Try.func37.trans (congrArg some (by kernel_rfl))
  f29 := Try.func38.trans (congrArg some (by kernel_rfl))
  f46 := ⟨"slices.siftDownCmpFunc[spence/api.Span]", by decide, Try.func39.trans (congrArg some (by kernel_rfl))⟩
  f47 := Try.func40.trans (congrArg some (by kernel_rfl))
  f48 := Try.func41.trans (congrArg some (by kernel_rfl))
  f49 := ⟨"slices.medianAdjacentCmpFunc[spence/api.Span]", by decide, Try.func42.trans (congrArg some (by kernel_rfl))⟩
  f50 := ⟨"slices.medianCmpFunc[spence/api.Span]", by decide, Try.func43.trans (congrArg some (by kernel_rfl))⟩
  f57 := ⟨"slices.order2CmpFunc[spence/api.Span]", by decide, Try.func44.trans (congrArg some (by kernel_rfl))⟩
  t0 := Try.underlying0
  a0 := Try.isAgg0
  z0 := Try.sizeOf0
  v0 := Try.zeroValue0
  t3 := Try.underlying3
  a3 := Try.isAgg3
  z3 := Try.sizeOf3
  v3 := Try.zeroValue3
  t4 := Try.underlying4
  a4 := Try.isAgg4
  z4 := Try.sizeOf4
  v4 := Try.zeroValue4
  t5 := Try.underlying5
  a5 := Try.isAgg5
  z5 := Try.sizeOf5
  v5 := Try.zeroValue5
  t9 := Try.underlying9
  a9 := Try.isAgg9
  z9 := Try.sizeOf9
  v9 := Try.zeroValue9
  t22 := Try.underlying22
  a22 := Try.isAgg22
  z22 := Try.sizeOf22
  v22 := Try.zeroValue22
  t25 := Try.underlying40
  a25 := Try.isAgg40
  z25 := Try.sizeOf40
  v25 := Try.zeroValue40
  t39 := Try.underlying49
  a39 := Try.isAgg49
  z39 := Try.sizeOf49
  v39 := Try.zeroValue49
  t45 := Try.underlying51
  a45 := Try.isAgg51
  z45 := Try.sizeOf51
  v45 := Try.zeroValue51
  t46 := Try.underlying52
  a46 := Try.isAgg52
  z46 := Try.sizeOf52
  v46 := Try.zeroValue52
  t50 := Try.underlying56
  a50 := Try.isAgg56
  z50 := Try.sizeOf56
  v50 := Try.zeroValue56
  t53 := Try.underlying59
  a53 := Try.isAgg59
  z53 := Try.sizeOf59
  v53 := Try.zeroValue59
  t55 := Try.underlying61
  a55 := Try.isAgg61
  z55 := Try.sizeOf61
  v55 := Try.zeroValue61
  t66 := Try.underlying62
  a66 := Try.isAgg62
  z66 := Try.sizeOf62
  v66 := Try.zeroValue62
  t70 := Try.underlying66
  a70 := Try.isAgg66
  z70 := Try.sizeOf66
  v70 := Try.zeroValue66
  t76 := Try.underlying68
  a76 := Try.isAgg68
  z76 := Try.sizeOf68
  v76 := Try.zeroValue68
  t77 := Try.underlying69
  a77 := Try.isAgg69
  z77 := Try.sizeOf69
  v77 := Try.zeroValue69 }
theorem spanSwo : SWO (ltOf spanC) where
  irrefl x := decide_eq_false (by unfold spanC; omega)
  trans x y z h1 h2 := by
    have h1 : x.1.1 - y.1.1 < 0 := of_decide_eq_true h1
    have h2 : y.1.1 - z.1.1 < 0 := of_decide_eq_true h2
    exact decide_eq_true (by unfold spanC; omega)
  ntrans x y z h1 h2 := by
    have h1 : ¬ x.1.1 - y.1.1 < 0 := of_decide_eq_false h1
    have h2 : ¬ y.1.1 - z.1.1 < 0 := of_decide_eq_false h2
    exact decide_eq_false (by unfold spanC; omega)
set_option maxHeartbeats 1000000 in
theorem Try.spanCmp (x y : SpA) (W : World) : Calls Try.prog 19 #[.agg #[.int .i64 x.1.1, .int .i64 x.1.2], .agg #[.int .i64 y.1.1, .int .i64 y.1.2]] W fun e w' => e = .returned (.int .i64 (spanC x y)) ∧ ∃ q os', w' = grow (W.drewN q) os' := by
  obtain ⟨⟨a, b⟩, hx⟩ := x
  obtain ⟨⟨c, d⟩, hy⟩ := y
  simp only at hx hy
  have hw : IntKind.i64.wrap (a - c) = a - c := Go.Ev.wr_id (by omega)
  simp only [spanC]
  generalize hr : a - c = r at hw ⊢
  go_enter Try.func19, Try.ntmps19
  go_wp2
  go_ret
  subst hr
  exact ⟨rfl, 0, _, by rw [alloc_eq_grow, alloc_eq_grow, grow_grow]; rfl⟩
def spanS (l : List SpA) : List SpA := Go.Ev.srtOf spanC l
theorem spanS_perm (l : List SpA) : (spanS l).Perm l := Go.Ev.srtOf_perm spanC spanSwo l
theorem spanS_sorted (l : List SpA) : (spanS l).Pairwise fun x y => x.1.1 ≤ y.1.1 :=
  (Go.Ev.srtOf_sorted spanC spanSwo l).imp fun {x y} h => by
    have h : ¬ y.1.1 - x.1.1 < 0 := of_decide_eq_false h
    omega
theorem Try.spanRow : Ev.SortsRow Try.prog spanE spanS 18 19 :=
  Go.Ev.sorts_row spanOk spanSwo (fun p cap fv w => AnyF.slices_SortFunc_none Try.sortF p cap fv w)
    (fun blk off cap d w hH hblk hsz => AnyQ.slices_SortFunc_eq Try.sortF 2 Try.isAgg24 Try.sizeOf24 spanE.cells (fun _ => rfl) (fun x v hv => by simp [spanE] at hv; rcases hv with rfl | rfl <;> rfl) spanC spanSwo 19 #[] blk off cap d w
      (enters_of Try.func19 (by kernel_rfl) rfl) (fun _ _ _ _ x y => Try.spanCmp x y _) hH hblk hsz)
theorem Try.sortN : Ev.CallSnd Try.prog (Ev.natSF spanE spanS 18 19) :=
  Ev.natSF_snd spanOk (fun l => (spanS_perm l).length_eq) ⟨_, Try.func18, by kernel_rfl, of_decide_eq_true (by kernel_rfl)⟩ Try.spanRow
end Go.Proofs
