/- slices.SortFunc of spans at this program, out of the shelf's contract. Own work, after the shelf's walk at structs. -/
import Derived.Shelf.SlSortCmp.WholeK
import Derived.Shelf.SlSortCmp.NoneTotal
import Derived.Test.YtpibecljdooilaaDoorEvSrt
import Derived.Test.YtpibecljdooilaaDoorSpanA
import Derived.Test.YtpibecljdooilaaDoorProg
namespace Go.Proofs
open Go.RowKit Go.Sort Go.Shelf Go.Lib
def Tryd.sortF_ren : Ren := ⟨fun | 6 => 88 | 15 => 120 | 14 => 119 | 28 => 144 | 29 => 145 | 20 => 136 | 21 => 137 | 22 => 138 | 23 => 139 | 24 => 140 | 25 => 141 | 26 => 142 | 27 => 143 | 46 => 151 | 47 => 152 | 48 => 153 | 49 => 154 | 50 => 155 | 57 => 159 | n => n, fun | 22 => 60 | 24 => 52 | 25 => 147 | 3 => 3 | 39 => 183 | 0 => 0 | 53 => 214 | 55 => 150 | 4 => 4 | 46 => 208 | 45 => 207 | 50 => 119 | 5 => 5 | 9 => 9 | 66 => 220 | 70 => 224 | 76 => 227 | 77 => 148 | n => n, fun n => n⟩
theorem Tryd.sortF : SlLaysF0.n6 Tryd.prog Tryd.sortF_ren := {
  mixed := by kernel_rfl
  f6 := ⟨"slices.SortFunc[[]spence/api.Span,spence/api.Span]", by decide, Tryd.func88.trans (congrArg some (by kernel_rfl))⟩
  f14 := ⟨"slices.pdqsortCmpFunc[spence/api.Span]", by decide, Tryd.func119.trans (congrArg some (by kernel_rfl))⟩
  f15 := Tryd.func120.trans (congrArg some (by kernel_rfl))
  f20 := ⟨"slices.insertionSortCmpFunc[spence/api.Span]", by decide, Tryd.func136.trans (congrArg some (by kernel_rfl))⟩
  f21 := ⟨"slices.heapSortCmpFunc[spence/api.Span]", by decide, Tryd.func137.trans (congrArg some (by kernel_rfl))⟩
  f22 := ⟨"slices.breakPatternsCmpFunc[spence/api.Span]", by decide, Tryd.func138.trans (congrArg some (by kernel_rfl))⟩
  f23 := ⟨"slices.choosePivotCmpFunc[spence/api.Span]", by decide, Tryd.func139.trans (congrArg some (by kernel_rfl))⟩
  f24 := ⟨"slices.reverseRangeCmpFunc[spence/api.Span]", by decide, Tryd.func140.trans (congrArg some (by kernel_rfl))⟩
  f25 := ⟨"slices.partialInsertionSortCmpFunc[spence/api.Span]", by decide, Tryd.func141.trans (congrArg some (by kernel_rfl))⟩
  f26 := ⟨"slices.partitionEqualCmpFunc[spence/api.Span]", by decide, Tryd.func142.trans (congrArg some (by kernel_rfl))⟩
  f27 := ⟨"slices.partitionCmpFunc[spence/api.Span]", by decide, Tryd.func143.trans (congrArg some (by kernel_rfl))⟩
  f28 := Tryd.func144.trans (congrArg some (by kernel_rfl))
  f29 := Tryd.func145.trans (congrArg some (by kernel_rfl))
  f46 := ⟨"slices.siftDownCmpFunc[spence/api.Span]", by decide, Tryd.func151.trans (congrArg some (by kernel_rfl))⟩
  f47 := Tryd.func152.trans (congrArg some (by kernel_rfl))
  f48 := Tryd.func153.trans (congrArg some (by kernel_rfl))
  f49 := ⟨"slices.medianAdjacentCmpFunc[spence/api.Span]", by decide, Tryd.func154.trans (congrArg some (by kernel_rfl))⟩
  f50 := ⟨"slices.medianCmpFunc[spence/api.Span]", by decide, Tryd.func155.trans (congrArg some (by kernel_rfl))⟩
  f57 := ⟨"slices.order2CmpFunc[spence/api.Span]", by decide, Tryd.func159.trans (congrArg some (by kernel_rfl))⟩
  t0 := Tryd.underlying0
  a0 := Tryd.isAgg0
  z0 := Tryd.sizeOf0
  v0 := Tryd.zeroValue0
  t3 := Tryd.underlying3
  a3 := Tryd.isAgg3
  z3 := Tryd.sizeOf3
  v3 := Tryd.zeroValue3
  t4 := Tryd.underlying4
  a4 := Tryd.isAgg4
  z4 := Tryd.sizeOf4
  v4 := Tryd.zeroValue4
  t5 := Tryd.underlying5
  a5 := Tryd.isAgg5
  z5 := Tryd.sizeOf5
  v5 := Tryd.zeroValue5
  t9 := Tryd.underlying9
  a9 := Tryd.isAgg9
  z9 := Tryd.sizeOf9
  v9 := Tryd.zeroValue9
  t22 := Tryd.underlying60
  a22 := Tryd.isAgg60
  z22 := Tryd.sizeOf60
  v22 := Tryd.zeroValue60
  t25 := Tryd.underlying147
  a25 := Tryd.isAgg147
  z25 := Tryd.sizeOf147
  v25 := Tryd.zeroValue147
  t39 := Tryd.underlying183
  a39 := Tryd.isAgg183
  z39 := Tryd.sizeOf183
  v39 := Tryd.zeroValue183
  t45 := Tryd.underlying207
  a45 := Tryd.isAgg207
  z45 := Tryd.sizeOf207
  v45 := Tryd.zeroValue207
  t46 := Tryd.underlying208
  a46 := Tryd.isAgg208
  z46 := Tryd.sizeOf208
  v46 := Tryd.zeroValue208
  t50 := Tryd.underlying119
  a50 := Tryd.isAgg119
  z50 := Tryd.sizeOf119
  v50 := Tryd.zeroValue119
  t53 := Tryd.underlying214
  a53 := Tryd.isAgg214
  z53 := Tryd.sizeOf214
  v53 := Tryd.zeroValue214
  t55 := Tryd.underlying150
  a55 := Tryd.isAgg150
  z55 := Tryd.sizeOf150
  v55 := Tryd.zeroValue150
  t66 := Tryd.underlying220
  a66 := Tryd.isAgg220
  z66 := Tryd.sizeOf220
  v66 := Tryd.zeroValue220
  t70 := Tryd.underlying224
  a70 := Tryd.isAgg224
  z70 := Tryd.sizeOf224
  v70 := Tryd.zeroValue224
  t76 := Tryd.underlying227
  a76 := Tryd.isAgg227
  z76 := Tryd.sizeOf227
  v76 := Tryd.zeroValue227
  t77 := Tryd.underlying148
  a77 := Tryd.isAgg148
  z77 := Tryd.sizeOf148
  v77 := Tryd.zeroValue148 }
theorem spanSwo : SWO (ltOf spanC) where
  irrefl x := decide_eq_false (by unfold spanC; omega)
  trans x y z h1 h2 := by
    have h1 : x.1.1 - y.1.1 < 0 := of_decide_eq_true h1
    have h2 : y.1.1 - z.1.1 < 0 := of_decide_eq_true h2
    exact decide_eq_true (by unfold spanC; omega)
  ntrans x y z h1 h2 := by
    have h1 : ¬ x.1.1 - y.1.1 < 0 := of_decide_eq_false h1
    have h2 : ¬ y.1.1 - z.1.1 < 0 := of_decide_eq_false h2
    exact decide_eq_false (by unfold spanC; omega)
set_option maxHeartbeats 1000000 in
theorem Tryd.spanCmp (x y : SpA) (W : World) : Calls Tryd.prog 89 #[.agg #[.int .i64 x.1.1, .int .i64 x.1.2], .agg #[.int .i64 y.1.1, .int .i64 y.1.2]] W fun e w' => e = .returned (.int .i64 (spanC x y)) ∧ ∃ q os', w' = grow (W.drewN q) os' := by
  obtain ⟨⟨a, b⟩, hx⟩ := x
  obtain ⟨⟨c, d⟩, hy⟩ := y
  simp only at hx hy
  have hw : IntKind.i64.wrap (a - c) = a - c := Go.Ev.wr_id (by omega)
  simp only [spanC]
  generalize hr : a - c = r at hw ⊢
  go_enter Tryd.func89, Tryd.ntmps89
  go_wp2
  go_ret
  subst hr
  exact ⟨rfl, 0, _, by rw [alloc_eq_grow, alloc_eq_grow, grow_grow]; rfl⟩
def spanS (l : List SpA) : List SpA := Go.Ev.srtOf spanC l
theorem spanS_perm (l : List SpA) : (spanS l).Perm l := Go.Ev.srtOf_perm spanC spanSwo l
theorem spanS_sorted (l : List SpA) : (spanS l).Pairwise fun x y => x.1.1 ≤ y.1.1 :=
  (Go.Ev.srtOf_sorted spanC spanSwo l).imp fun {x y} h => by
    have h : ¬ y.1.1 - x.1.1 < 0 := of_decide_eq_false h
    omega
theorem Tryd.spanRow : Ev.SortsRow Tryd.prog spanE spanS 88 89 :=
  Go.Ev.sorts_row spanOk spanSwo (fun p cap fv w => AnyF.slices_SortFunc_none Tryd.sortF p cap fv w)
    (fun blk off cap d w hH hblk hsz => AnyQ.slices_SortFunc_eq Tryd.sortF 2 Tryd.isAgg52 Tryd.sizeOf52 spanE.cells (fun _ => rfl) (fun x v hv => by simp [spanE] at hv; rcases hv with rfl | rfl <;> rfl) spanC spanSwo 89 #[] blk off cap d w
      (enters_of Tryd.func89 (by kernel_rfl) rfl) (fun _ _ _ _ x y => Tryd.spanCmp x y _) hH hblk hsz)
theorem Tryd.sortN : Ev.CallSnd Tryd.prog (Ev.natSF spanE spanS 88 89) :=
  Ev.natSF_snd spanOk (fun l => (spanS_perm l).length_eq) ⟨_, Tryd.func88, by kernel_rfl, of_decide_eq_true (by kernel_rfl)⟩ Tryd.spanRow
end Go.Proofs
