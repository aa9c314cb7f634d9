/- How many of any requests were answered how, with how many bytes, and which took longest, is told as it is, and of two lists together too, for every input. No conditions. -/
import Derived.Test.YtpibecljdooilaaDoorRows
import Derived.Test.YtpibecljdooilaaDoorCards
import Derived.Test.YtpibecljdooilaaDoorTie
import Derived.Test.YtpibecljdooilaaDoorStF
import Derived.Test.YtpibecljdooilaaDoorEvArg
import Derived.ProofKit
import Derived.WalkKit
import Derived.LaidMore
import Derived.OpenShut
import Derived.SevenTiedAt
import Derived.Lay
import Derived.MakeChecks
import Derived.LaidHandle
import Derived.LaidLaws
import Derived.Shelf.Vars
namespace Go.Proofs.YtpibecljdooilaaDoor
open Go Go.ChangeShapes Go.WideShapes Go.ChangeAt Go.RowKit Go.Ev
set_option linter.unusedVariables false
set_option linter.unusedSimpArgs false
theorem Tryd.own : ownKnob Tryd.prog.godebug = Option.none := by kernel_rfl
theorem Tryd.laidOut : laidOutB Tryd.prog = true := by kernel_rfl
theorem sh0 : shOf Tryd.prog 50 40 = some (.sl (.i .i64 (.s (.s (.i .i64 (.i .i64 (.i .i64 (.i .i64 (.i .i64 (.s (.s (.sl (.i .u8 .nil) 1 .nil))))))))))) 136 .nil) := by kernel_rfl
theorem sh1 : shOf Tryd.prog 50 40 = some (.sl (.i .i64 (.s (.s (.i .i64 (.i .i64 (.i .i64 (.i .i64 (.i .i64 (.s (.s (.sl (.i .u8 .nil) 1 .nil))))))))))) 136 .nil) := by kernel_rfl
theorem prms : Tryd.f6.params.toList = [40, 40] := by rw [Tryd.params6]
theorem cell_lt {W : World} {g j : Nat} {v : Value} (h : W.cell? ⟨g, j, none⟩ = some v) : g < W.heap.size := by
  by_cases hz : g < W.heap.size
  · exact hz
  · have h0 : W.heap[g]? = none := Array.getElem?_eq_none (by omega)
    simp [World.cell?, h0] at h
theorem et_name : Tryd.prog.globalNamed "errors.errorType" = some 1 := by kernel_rfl
theorem et_row : (Tryd.prog.cutTypes.find? (·.1 == "internal/reflectlite.rtype")).map (·.2) = some 188 := by kernel_rfl
theorem et_one : ((List.range 281).filter fun t => Tryd.prog.rowNamed t [101, 114, 114, 111, 114]) = [80] := by kernel_rfl
theorem et_size : Tryd.prog.types.size = 281 := by kernel_rfl
theorem gl_laid {W : World} (h : laidMetH Tryd.prog ([("errors.errorType", Rows.laid_errors_errorType), ("bytes.ErrTooLarge", Rows.laid_bytes_ErrTooLarge)]) W) (hs : W.ShapedOpen Tryd.prog) : Gl W (Old W) := by
  have h' : laidMet Tryd.prog (([("errors.errorType", Rows.laid_errors_errorType), ("bytes.ErrTooLarge", Rows.laid_bytes_ErrTooLarge)] : List (String × DataW Unit)).filter fun x => x.2.handleName?.isNone) W ∧ handlesMet Tryd.prog [("errors.errorType", Rows.laid_errors_errorType)] W := h
  obtain ⟨name, u, ty, e1, e2, e3, e4, e5⟩ := h'.2 _ (List.mem_singleton.2 rfl)
  have en : name = [101, 114, 114, 111, 114] := (Option.some.inj e1).symm
  subst en
  obtain rfl := Option.some.inj (et_row.symm.trans e2)
  have hm : ty ∈ (List.range 281).filter fun t => Tryd.prog.rowNamed t [101, 114, 114, 111, 114] := List.mem_filter.2 ⟨List.mem_range.2 (by rw [← et_size]; exact e3), e4⟩
  rw [et_one] at hm
  obtain rfl := List.mem_singleton.1 hm
  have hh : typeHandle Tryd.prog 80 = .pointer (some ⟨5, 80, none⟩) := by kernel_rfl
  rw [hh] at e5
  have hc : W.cell? ⟨1, 0, none⟩ = some (.iface 188 (.agg #[.pointer (some ⟨5, 80, none⟩)])) := by simpa using World.var?_cell et_name e5 0
  obtain ⟨m, hI⟩ := Go.Proofs.cell_of_shapedOpen_int (P := Tryd.prog) (g := 2) (t := 3) (zero := #[.int .i64 0]) hs (of_decide_eq_true (by kernel_rfl)) (by kernel_rfl) rfl (by kernel_rfl) (by kernel_rfl) Tryd.underlying3
  refine ⟨fun p hp => ?_, fun g hg => ?_⟩
  · have hp : p = (1, [Value.iface 188 (.agg #[.pointer (some ⟨5, 80, none⟩)])]) := by simpa [glT] using hp
    subst hp
    refine ⟨cell_lt hc, fun j hj => ?_⟩
    have : j = 0 := by simp at hj; omega
    subst this
    exact hc
  · have hg : g = 2 := by simpa [glI] using hg
    subst hg
    exact ⟨cell_lt hI, m, hI⟩
theorem law_calls_true : ∀ dss, OkAll Tryd.prog Tryd.f6.params.toList dss → call ir2 6 (argsA Tryd.prog Tryd.f6.params.toList dss) [] = some (.d (.bool true), []) := by
  intro dss h
  rw [prms] at h ⊢
  obtain ⟨_, _, rfl, h0, h⟩ := okAll_cons sh0 h
  obtain ⟨_, _, rfl, h1, h⟩ := okAll_cons sh1 h
  obtain rfl := okAll_nil h
  obtain ⟨xs, _, rfl, hl, hq, h0⟩ := ok_sl h0
  obtain ⟨ys, _, rfl, hk, hr, h1⟩ := ok_sl h1
  obtain ⟨l, rfl, _⟩ := dones_of hq
  obtain ⟨k, rfl, _⟩ := dones_of hr
  simp only [argsA, argA_sl Tryd.underlying40, argA_sl Tryd.underlying40]
  exact t_StatDones l k (by simp [reachBytes] at hl; omega) (by simp [reachBytes] at hk; omega)
noncomputable def withCell (w : World) (g : Nat) (v : Value) : World := { w with heap := w.heap.modify g fun
      | .cells _ t frozen => .cells #[v] t frozen
      | o => o }
theorem withCell_os (w : World) (g : Nat) (v : Value) : (withCell w g v).os = w.os := rfl
noncomputable def laidWorld (os : Os) : World := withCell (World.laidAll Tryd.prog os ([("bytes.ErrTooLarge", Rows.laid_bytes_ErrTooLarge)])) 1 (.iface 188 (.agg #[.pointer (some ⟨5, 80, none⟩)]))
theorem laidWorld_os (os : Os) : (laidWorld os).os = os := (withCell_os (World.laidAll Tryd.prog os ([("bytes.ErrTooLarge", Rows.laid_bytes_ErrTooLarge)])) 1 (.iface 188 (.agg #[.pointer (some ⟨5, 80, none⟩)]))).trans (World.laidAll_os Tryd.prog os ([("bytes.ErrTooLarge", Rows.laid_bytes_ErrTooLarge)]))
theorem laid_rest : (([("errors.errorType", Rows.laid_errors_errorType), ("bytes.ErrTooLarge", Rows.laid_bytes_ErrTooLarge)] : List (String × DataW Unit)).filter fun x => x.2.handleName?.isNone) = ([("bytes.ErrTooLarge", Rows.laid_bytes_ErrTooLarge)]) := by kernel_rfl
theorem door_met (os : Os) (args : Array Value) : laidMetH Tryd.prog ([("errors.errorType", Rows.laid_errors_errorType), ("bytes.ErrTooLarge", Rows.laid_bytes_ErrTooLarge)]) ((laidWorld os).forCall (fun _ _ => 0) ⟨#[], args, []⟩).memory :=
  laidMetH_of_parts (by rw [laid_rest]; exact laidMet_of_run' 8 (by kernel_rfl) (by kernel_rfl)) (by kernel_rfl)
theorem law_lifted (os : Os) (started : os.Started) (H : Type) (enc : TypeId × Value → H) :
    ReturnsInHanded {} Tryd.checked os 6 .any (fun w args => (Rows.statDonesSpec.pre enc Tryd.prog Tryd.f6 [] false w args ∧ laidMetH Tryd.prog ([("errors.errorType", Rows.laid_errors_errorType), ("bytes.ErrTooLarge", Rows.laid_bytes_ErrTooLarge)]) w) ∧ sizedMet enc Tryd.prog Tryd.f6 (OpenSpec.ofChange Rows.statDonesSpec) false w args) (Rows.statDonesSpec.post enc Tryd.prog Tryd.f6 false true false false) := by
  refine returns_laid (C := Tryd.checked) Tryd.own started (by kernel_rfl) tab2 Tryd.func6 Tryd.laidOut (tb := 4) (fn := Tryd.f6) (by kernel_rfl) Tryd.underlying4 rfl ?_ ?_ law_calls_true true false
    (ChangeSpec.witness_shaped (enc := enc) (C := Tryd.checked) (os := os) (X := fun w _ => laidMetH Tryd.prog ([("errors.errorType", Rows.laid_errors_errorType), ("bytes.ErrTooLarge", Rows.laid_bytes_ErrTooLarge)]) w) false (laidWorld os) #[.slice none 0 0, .slice none 0 0] 12 (laidWorld_os os) (World.shaped_of_ZipB (by kernel_rfl) (by kernel_rfl)) (by kernel_rfl) (by kernel_rfl) (by kernel_rfl) (door_met os _)) (fun _ h hs => gl_laid h hs)
  · intro ds hd
    have hd2 : ds.length = 2 := hd
    match ds, hd2 with
    | [_, _], _ => rfl
  · intro t ht
    have : t = 40 := by
      have h2 : t ∈ Tryd.f6.params.toList := ht
      rw [prms] at h2; simp only [List.mem_cons, List.not_mem_nil, or_false] at h2; rcases h2 with rfl | rfl <;> simp
    rcases this with rfl
    · exact ⟨⟨_, sh0⟩, by kernel_rfl, of_decide_eq_true (by kernel_rfl)⟩
theorem row_holds : Rows.statDonesRow.holds Tryd.pinned (OpenSpec.ofChange Rows.statDonesSpec) :=
  OpenClaim.holds_of_wide 6 Tryd.f6 rfl rfl rfl rfl rfl rfl rfl ⟨rfl, rfl, rfl, rfl, rfl⟩ rfl rfl rfl rfl rfl (by kernel_rfl) Tryd.func6 (by kernel_rfl)
    (of_decide_eq_true (by kernel_rfl)) (by unfold Func.isWrapper; first | (rw [if_pos (by decide +kernel)]; kernel_rfl) | (rw [if_neg (by decide +kernel)]; exact ⟨rfl, rfl⟩))
    (fun os started H enc _ => law_lifted os started H enc)
theorem statDones_holds : Rows.StatDonesCardSaid :=
  Claim7.holds_tied_plain_at .later [] [.handle, .sentinel] true (true, "9ff114352264addb8c893f9962fcf05f2b897e218beff307cc0e513103f376b9") true
    row_holds (fun _ h => by cases h) (by kernel_rfl) (fun _ h => by cases h) statDones_row_tie rfl ⟨rfl, rfl⟩ (by kernel_rfl) rfl
    (fun f fn hf hfn => by
      obtain rfl : f = 6 := Option.some.inj ((show Tryd.prog.funcNamed "spence/spencelaw45.StatDones" = some 6 by kernel_rfl).symm.trans hf) |>.symm
      obtain rfl : fn = Tryd.f6 := (Option.some.inj (Tryd.func6.symm.trans hfn)).symm
      exact ⟨by kernel_rfl, fun j t ht => by
        have hm : t ∈ Tryd.f6.params.toList := by simpa using Array.mem_of_getElem? ht
        rw [prms] at hm
        have hall : ([40, 40].all fun u => !Tryd.prog.wantsStandIn u) = true := by kernel_rfl
        exact (show Tryd.prog.wantsStandIn t = false by simpa using List.all_eq_true.1 hall t hm)⟩)
    (by kernel_rfl)
end Go.Proofs.YtpibecljdooilaaDoor
