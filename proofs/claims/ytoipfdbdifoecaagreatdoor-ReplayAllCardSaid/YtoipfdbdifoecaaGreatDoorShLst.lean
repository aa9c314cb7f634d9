/- bitmap.List: all numbers of a set, the lowest first. Own work, after the kit's worked walks. -/
import Derived.Test.YtoipfdbdifoecaaGreatDoorShAll
import Derived.Shelf.SlIter.Collect
import Derived.RangeFuncFrom
import Derived.Sort.MapsRangeIn
import Derived.RegionIn
import Derived.Maps.RangeWalk
namespace Go.Proofs
open Go.RowKit Go.Shelf Go.Ev
set_option maxRecDepth 100000
set_option linter.unusedVariables false
set_option linter.unusedSimpArgs false
attribute [local go_sem] Oper.semAt_some
theorem wpO_append_own {F : Fence} {n : Nat} {P : Program} (w : World) {o : Oper} {a : Act} {next : Act → World → Prop} {Q : Exit → Act → World → Prop}
    (s x : Operand) (t : TypeId) (hop : o.op = Op.call { callee := Callee.builtin Builtin.append, args := #[s, x], argTypes := #[t, t] })
    (base : Nat) (e : TypeId) (i : TypeInfo) (z : Value) (size bytes : Nat) (h1 : P.underlying t = some (.slice e)) (h2 : P.info? e = some i) (h3 : i.zero = some z) (h4 : i.size = size) (h5 : i.bytes = bytes) (h6 : z.cells.size = size) (h7 : 0 < size)
    (v : Value) (k : Nat) (xs : List Value) (hs : a.eval s = v) (hown : w.ownsRow base e size v k xs) (ad : Addr) (m c : Nat) (news : List Value) (hx : a.eval x = .slice (some ad) m c) (hn : news.length = m * size)
    (hc : ∀ j u, news[j]? = some u → w.cell? (ad.add j) = some u) (h1c : ∀ u ∈ news, u.oneCell' = true) (b1 : k + m ≤ maxLen) (b2 : (k + m) * bytes ≤ 140737488355328) (b3 : base ≤ w.heap.size)
    (hK : ∀ v' w', w'.ownsRow base e size v' (k + m) (xs ++ news) → w.grownBy w' v.ownBlock → (v' = .slice none 0 0 ↔ v = .slice none 0 0 ∧ m = 0) → next (a.put o.dst v') w') :
    o.wpIn F n P a w next Q := by
  obtain ⟨v', w', hrun, r1, r2, r3⟩ := run_append_own (P := P) w base t o.type e i z size bytes h1 h2 h3 h4 h5 h6 h7 v k xs hown ad m c news hn hc h1c b1 b2 b3
  unfold Oper.wpIn
  refine ⟨?_, ?_⟩
  · simp [Oper.about, hop, resolve, Target.leads, Sem.run_pure]
  · rw [Oper.semAt_plain F _ _ (by rw [hop]; intro c hc'; cases hc')]
    simp [execOp, hop, resolve, invoke, builtin, hs, hx, hrun, Result.andThen]
    exact hK v' w' r1 r2 r3
set_option maxHeartbeats 1000000 in
theorem all_in (n : Nat) (A : Nat → BitVec 64) (w : World) :
    CallsIn Fence.wide n Tryz.prog 54 #[.agg (us A).toArray] w fun e w' => e = .returned (.func (.func 74) #[] #[.pointer (some ⟨w.heap.size, 0, none⟩)]) ∧ w' = w.alloc (.cells (us A).toArray 79) := by
  refine callsIn_of_wp Tryz.func54 rfl trivial ?_ rfl
  simp only [Tryz.ntmps54, List.size_toArray, List.length_cons, List.length_nil, Nat.reduceAdd, Nat.reduceSub, Array.replicate_succ, Array.replicate_zero, List.push_toArray, List.append_toArray, List.nil_append, List.cons_append]
  gi_wp2
  go_ret
  exact ⟨rfl, rfl⟩
theorem all_stops (n : Nat) (hn : 2 ≤ n) (Bm n₀ : Nat) (A : Nat → BitVec 64) (w : World) (hBm : Bm < w.heap.size) (hn1 : 0 < n₀) (hn2 : n₀ ≤ w.heap.size) (hT : TabD w)
    (hc : ∀ j, j < 65 → w.cell? ⟨Bm, j, none⟩ = some (.int .u64 (A j).toNat)) :
    SeqStopsK Fence.wide n Tryz.prog 74 #[.pointer (some ⟨Bm, 0, none⟩)] (fun x : Nat => #[Value.int .i64 (x : Int)]) (Below n₀) (fun ys => ys = restW A 65 0) (fun pre => pre <+: restW A 65 0) (restW A 65 0).length w := fun l J Jx W hW _ _ hY h0 =>
  all1_in n hn l Bm n₀ A J Jx hY W (fun j hj => (hW.cell (p := ⟨Bm, j, none⟩) hBm).trans (hc j hj)) (fun j hj => (hW.cell (p := ⟨0, j, none⟩) (Nat.lt_of_lt_of_le hn1 hn2)).trans (hT j hj)) hn1 h0
/-- Between two rounds. -/
def LstAt (n₀ Bo : Nat) (pre : List Nat) (W : World) : Prop :=
  ∃ v, W.heap[Bo]? = some (.cells #[v] 67 (0, 0)) ∧ W.ownsRow n₀ 3 1 v pre.length (pre.map fun (x : Nat) => Value.int .i64 (x : Int))
theorem lst_own (n₀ Bo : Nat) : Own (LstAt n₀ Bo) := fun s A B row hs hg hr => by
  obtain ⟨v, hv, hrow⟩ := hs
  have hne : ∀ {j : Nat} {o : Obj}, A.heap[j]? = some o → o.isCells = true → row ≠ some j := fun hj ho e => by
    obtain ⟨o', h1, h2⟩ := hr _ e
    rw [hj] at h1; cases h1; rw [ho] at h2; cases h2
  refine ⟨v, (hg.block Bo (Array.getElem?_eq_some_iff.1 hv).1 (fun e => hne hv rfl e.symm)).trans hv, hrow.kept hg ?_⟩
  rcases hrow.2 with ⟨rfl, _⟩ | ⟨g, cap, cur, rfl, _, hgb, _⟩
  · exact .inl rfl
  · exact .inr fun e => hne hgb rfl (by simpa [Value.ownBlock] using e.symm)
theorem cell_of_box_l {W : World} {B : Nat} {v : Value} {t : TypeId} (h : W.heap[B]? = some (.cells #[v] t (0, 0))) : W.cell? ⟨B, 0, none⟩ = some v ∧ W.frozen? ⟨B, 0, none⟩ = false := by
  constructor <;> simp [World.cell?, World.frozen?, h]
theorem restW_len (A : Nat → BitVec 64) : (restW A 65 0).length ≤ 4160 := by
  have h : ∀ n k, (restW A n k).length ≤ n * 64 := by
    intro n
    induction n with
    | zero => intro k; simp [restW]
    | succ n ih =>
      intro k
      have := ih (k + 1)
      have h2 : (bl (A k)).length ≤ 64 := by unfold bl; exact Nat.le_trans (List.length_filter_le _ _) (by simp)
      simp only [restW, List.length_append, List.length_map]; omega
  exact h 65 0
theorem inf74 : (Tryz.prog.info? 79).map (·.size) = some 65 := by kernel_rfl
theorem us_get (A : Nat → BitVec 64) {j : Nat} (hj : j < 65) : (us A).toArray.getD j undef = .int .u64 ((A j).toNat : Int) := by
  rw [getD_arr]; simp [us, List.getD_eq_getElem?_getD, hj]
theorem load74 (Bm : Nat) (A : Nat → BitVec 64) (W : World) (hBm : ∀ j, j < 65 → W.cell? ⟨Bm, j, none⟩ = some (.int .u64 (A j).toNat)) :
    (Instr.loadAt 79 (Value.pointer (some ⟨Bm, 0, none⟩))).run Tryz.prog W = .ok (.agg (us A).toArray) W := by
  have hl : (us A).length = 65 := by simp [us]
  have hu := Tryz.underlying79
  have hc := run_loadCells_list (P := Tryz.prog) W ⟨Bm, 0, none⟩ (us A) (list_of_getD (n := 65) hl fun j hj => by
    rw [addr_add, Nat.zero_add, hBm j hj]; simp [us, List.getD_eq_getElem?_getD, hj])
  rw [hl] at hc
  obtain ⟨i, hi, hs⟩ := Option.map_eq_some_iff.1 inf74
  simp only [Instr.loadAt, Instr.sureAddr, Sem.run_bind, Sem.run_pure, Result.andThen_ok, loadVar, Go.Ev.run_isAgg hu, isAggD, if_true, Go.Ev.run_sizeOf hi, hs, hc]
theorem inf66 : (Tryz.prog.info? 3).map (fun i => (i.zero, i.size, i.bytes)) = some (some (.int .i64 0), 1, 8) := by kernel_rfl
set_option maxHeartbeats 400000 in
theorem app_op {F : Fence} {n : Nat} {next : Act → World → Prop} {Q : Exit → Act → World → Prop} (b : Nat) (W : World) (v : Value) (x : Nat) (pre : List Nat) (t0 t1 t2 t3 t4 t5 t6 t7 t9 t11 t12 : Value) {pos : String} {af : Array Edge} {ty : TypeId}
    (hrow : W.ownsRow b 3 1 v pre.length (pre.map fun (x : Nat) => Value.int .i64 (x : Int))) (hb : b ≤ W.heap.size) (hq1 : pre.length + 1 ≤ maxLen) (hq2 : (pre.length + 1) * 8 ≤ 140737488355328)
    (hK : ∀ v' w', w'.ownsRow b 3 1 v' (pre.length + 1) ((pre.map fun (x : Nat) => Value.int .i64 (x : Int)) ++ [.int .i64 (x : Int)]) → (W.alloc (.cells #[.int .i64 (x : Int)] 3)).grownBy w' v.ownBlock → next ⟨#[t0, t1, t2, t3, t4, t5, t6, t7, v, t9, .slice (some ⟨W.heap.size, 0, none⟩) 1 1, v', t12], []⟩ w') :
    Oper.wpIn F n Tryz.prog { dst := some 11, op := Op.call { callee := Callee.builtin Builtin.append, args := #[Operand.tmp 8, Operand.tmp 10], argTypes := #[67, 67] }, type := ty, pos := pos, after := af, guard := none }
      { tmps := #[t0, t1, t2, t3, t4, t5, t6, t7, v, t9, .slice (some ⟨W.heap.size, 0, none⟩) 1 1, t11, t12], defers := [] } (W.alloc (.cells #[.int .i64 (x : Int)] 3)) next Q := by
  obtain ⟨i0, hi, hz0, hz1, hz2⟩ := info_parts inf66
  refine wpO_append_own _ _ _ 67 rfl b 3 i0 (.int .i64 0) 1 8 Tryz.underlying67 hi hz0 hz1 hz2 rfl (by decide) _ _ _ rfl (hrow.alloc _) ⟨W.heap.size, 0, none⟩ 1 1 [.int .i64 (x : Int)] rfl rfl (cell_one_new _ _ _) (by simp [Value.oneCell']) hq1 hq2 (by simp; omega) ?_
  intro v' w4 hown' hg4 _
  exact hK v' w4 hown' hg4
theorem lst_step {b Bo : Nat} {W w4 : World} {v v' : Value} {x : Nat} {pre : List Nat} (hv : W.heap[Bo]? = some (.cells #[v] 67 (0, 0)))
    (hrow : W.ownsRow b 3 1 v pre.length (pre.map fun (x : Nat) => Value.int .i64 (x : Int)))
    (hown' : w4.ownsRow b 3 1 v' (pre.length + 1) ((pre.map fun (x : Nat) => Value.int .i64 (x : Int)) ++ [.int .i64 (x : Int)]))
    (hg4 : (W.alloc (.cells #[.int .i64 (x : Int)] 3)).grownBy w4 v.ownBlock) :
    w4.heap[Bo]? = some (.cells #[v] 67 (0, 0)) ∧ ∃ g' cap', v' = .slice (some ⟨g', 0, none⟩) (pre.length + 1) cap' := by
  have hlt : Bo < W.heap.size := (Array.getElem?_eq_some_iff.1 hv).1
  have hv2 : (W.alloc (.cells #[.int .i64 (x : Int)] 3)).heap[Bo]? = some (.cells #[v] 67 (0, 0)) := (Below.heap_alloc W _ _ hlt).trans hv
  refine ⟨(hg4.block Bo (by simp; omega) ?_).trans hv2, ?_⟩
  · rcases ownsRow_ne_a (hrow.alloc _) hv2 (fun cur e => by cases e) with e | e
    · rw [e]; simp
    · exact fun e' => e e'.symm
  · rcases hown'.2 with ⟨_, h0⟩ | ⟨g', cap', cur', h1, _⟩
    · exact absurd h0 (by omega)
    · exact ⟨g', cap', h1⟩
set_option maxHeartbeats 4000000 in
theorem list_in (n : Nat) (hn : 4 ≤ n) (A : Nat → BitVec 64) (w : World) (hw : 0 < w.heap.size) (hT : TabD w) :
    CallsIn Fence.wide n Tryz.prog 29 #[.agg (us A).toArray] w fun e w' => ∃ v, e = .returned v ∧ w'.ownsRow w.heap.size 3 1 v (restW A 65 0).length ((restW A 65 0).map fun (x : Nat) => Value.int .i64 (x : Int)) ∧ Below w.heap.size w w' := by
  refine callsIn_of_wp_marks Tryz.func29 rfl trivial ?_ rfl
  simp only [Tryz.ntmps29, List.size_toArray, List.length_cons, List.length_nil, Nat.reduceAdd, Nat.reduceSub, Array.replicate_succ, Array.replicate_zero, List.push_toArray, List.append_toArray, List.nil_append, List.cons_append]
  have hb0 : ∀ (W : World), W.heap[w.heap.size]? = some (.cells (us A).toArray 79 (0, 0)) → ∀ j, j < 65 → W.cell? ⟨w.heap.size, j, none⟩ = some (.int .u64 (A j).toNat) := fun W h j hj => by
    rw [cell_at h (by simp [us]; exact hj), us_get A hj]
  have hh1 : ((w.alloc (.cells (us A).toArray 79)).alloc (.cells #[.slice none 0 0] 67)).heap[w.heap.size]? = some (.cells (us A).toArray 79 (0, 0)) :=
    (Below.heap_alloc _ _ _ (by simp)).trans (World.alloc_heap_new w _)
  have hload := load74 w.heap.size A _ (hb0 _ hh1)
  gi_wp2_with (first | (refine wpIn_load rfl hload (fun _ _ => trivial) ?_; simp only [Act.put, go_sem]) | (refine ⟨trivial, fun h => by simp [Fence.wide] at h, (all_in (n - 1) A _).mono ?_⟩; rintro e w' ⟨rfl, rfl⟩) | gi_in)
  obtain ⟨w3, hw3⟩ : ∃ w3, (((w.alloc (.cells (us A).toArray 79)).alloc (.cells #[.slice none 0 0] 67)).alloc (.cells (us A).toArray 79)) = w3 := ⟨_, rfl⟩
  rw [hw3]
  have hs3 : w3.heap.size = w.heap.size + 3 := by rw [← hw3]; simp
  have hb3 : Below w.heap.size w w3 := by rw [← hw3]; exact (((Below.refl _ w).alloc (Nat.le_refl _) _).alloc (by simp) _).alloc (by simp; omega) _
  have hbox : w3.heap[w.heap.size + 1]? = some (.cells #[.slice none 0 0] 67 (0, 0)) := by
    rw [← hw3]; exact (Below.heap_alloc _ _ _ (by simp)).trans (by have := World.alloc_heap_new (w.alloc (.cells (us A).toArray 79)) (.cells #[.slice none 0 0] 67); rwa [World.size_alloc] at this)
  have hm3 : w3.heap[w.heap.size + 1 + 1]? = some (.cells (us A).toArray 79 (0, 0)) := by
    rw [← hw3]; have := World.alloc_heap_new ((w.alloc (.cells (us A).toArray 79)).alloc (.cells #[.slice none 0 0] 67)) (.cells (us A).toArray 79); rwa [World.size_alloc, World.size_alloc] at this
  clear hw3
  have hT3 : TabD w3 := fun j hj => (hb3.cell (p := ⟨0, j, none⟩) hw).trans (hT j hj)
  have hc3 : ∀ j, j < 65 → w3.cell? ⟨w.heap.size + 1 + 1, j, none⟩ = some (.int .u64 (A j).toNat) := fun j hj => by
    rw [cell_at hm3 (by simp [us]; exact hj), us_get A hj]
  refine wpIn_rangeFunc_ownF rfl (by omega) (gf := 74) (lb := #[.pointer (some ⟨w.heap.size + 1 + 1, 0, none⟩)]) rfl trivial (enters_of Tryz.func74 (by kernel_rfl) rfl)
    (all_stops (n - 1) (by omega) (w.heap.size + 1 + 1) w.heap.size A w3 (by omega) hw (by omega) hT3 hc3) belowK_t (belowK_b (by omega)) (Below.refl _ _) (fun _ => rfl)
    (fun pre W => LstAt w.heap.size (w.heap.size + 1) pre W ∧ Below w.heap.size w W) (fun _ _ _ => False)
    (OwnFrom.and ((lst_own _ _).from _) (ownFrom_below (Nat.le_refl _) (by omega))) (fun _ _ _ _ _ hs _ _ => hs)
    ⟨⟨_, hbox, rfl, .inl ⟨rfl, rfl⟩⟩, hb3⟩
    (fun x => { tmps := #[.agg (us A).toArray, .pointer (some ⟨w.heap.size, 0, none⟩), .slice none 0 0, .pointer (some ⟨w.heap.size + 1, 0, none⟩), .int .i64 (x : Int), .agg (us A).toArray, .func (.func 74) #[] #[.pointer (some ⟨w.heap.size + 1 + 1, 0, none⟩)], .int .i64 (x : Int), undef, undef, undef, undef, undef], defers := [] }) ?assign ?body ?done ?stop
  case assign =>
    intro l x W K hK
    gi_wp2
    exact hK
  case body =>
    rintro l pre x W ⟨⟨v, hv, hrow⟩, hb⟩ hlen
    obtain ⟨i0, hi, hz0, hz1, hz2⟩ := info_parts inf66
    obtain ⟨hc2, hf2⟩ := cell_of_box_l hv
    have hBlt : w.heap.size + 1 < W.heap.size := (Array.getElem?_eq_some_iff.1 hv).1
    have hN : (restW A 65 0).length ≤ 4160 := restW_len A
    have hq1 : pre.length + 1 ≤ maxLen := by have : 5000 ≤ maxLen := by decide
                                             omega
    have hq2 : (pre.length + 1) * 8 ≤ 140737488355328 := by omega
    have hq3 : w.heap.size ≤ (W.alloc (.cells #[.int .i64 (x : Int)] 3)).heap.size := by have := hb.size; simp; omega
    gi_wp2_with (first
      | (refine app_op w.heap.size W v x pre _ _ _ _ _ _ _ _ _ _ _ hrow hb.size hq1 hq2 ?_; intro v' w4 hown' hg4; obtain ⟨hv4, g', cap', rfl⟩ := lst_step hv hrow hown' hg4; obtain ⟨hc4, hf4⟩ := cell_of_box_l hv4)
      | gi_in)
    have hA : KeepsOthers (W.alloc (.cells #[.int .i64 (x : Int)] 3)) w4 := KeepsOthers.of_grownBy hg4 (fun j o e ho => by
      rcases (hrow.alloc (.cells #[.int .i64 (x : Int)] 3)).2 with ⟨e1, _⟩ | ⟨g, cap, cur, e1, _, hgb, _⟩
      · rw [e1] at e; simp [Value.ownBlock] at e
      · rw [e1] at e
        have : g = j := by simpa [Value.ownBlock] using e
        subst this
        rw [hgb] at ho; cases ho; rfl)
    have hgs := grownBy_setCell0_a w4 (w.heap.size + 1) (.slice (some ⟨g', 0, none⟩) (pre.length + 1) cap')
    have hB : ∀ (X : World), Below w.heap.size X W → w.heap.size ≤ X.heap.size → Below w.heap.size X (w4.setCell ⟨w.heap.size + 1, 0, none⟩ (.slice (some ⟨g', 0, none⟩) (pre.length + 1) cap')) := fun X hX hle => by
      have h1 := (hX.alloc (Nat.le_trans hle hX.size) (.cells #[.int .i64 (x : Int)] 3)).grown hg4 (by have := hX.size; simp; omega) (fun k e => (hrow.lt k e).1)
      exact h1.grown hgs (Nat.le_trans hle h1.size) (fun k e => by cases e; omega)
    refine ⟨((KeepsOthers.alloc W _).trans hA).trans (KeepsOthers.setCell _ _ _), hB W (Below.refl _ _) hb.size, ⟨_, heap_setCell_box_a _ hv4, ?_⟩, hB w hb (Nat.le_refl _)⟩
    have := hown'.kept hgs (ownsRow_ne_a hown' hv4 (fun cur e => by cases e))
    simpa using this
  case done =>
    rintro D ys W hD rfl ⟨⟨v, hv, hrow⟩, hb⟩ hK
    obtain ⟨hc2, hf2⟩ := cell_of_box_l hv
    gi_wp2
    refine ⟨by simp, .inl ⟨_, _, rfl, run_takeDeferred hK, ?_⟩⟩
    exact ⟨_, results_tmp rfl _ _ _, v, rfl, hrow.kept (grownBy_putObj' _ D _) (ownsRow_ne_a hrow hK (fun cur e => by cases e)), hb.grown (grownBy_putObj' _ D _) hb.size (fun k e => by cases e; omega)⟩
  case stop =>
    rintro D c pre W _ _ h _
    exact h.elim
end Go.Proofs
