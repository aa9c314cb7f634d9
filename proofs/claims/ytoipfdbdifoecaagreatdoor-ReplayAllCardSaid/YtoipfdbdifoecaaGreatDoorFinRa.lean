/- Any records, one behind the other, are the index, the needed ones and the records of any object that the document says, for every input. No conditions. -/
import Derived.Test.YtoipfdbdifoecaaGreatDoorRows
import Derived.Test.YtoipfdbdifoecaaGreatDoorCards
import Derived.Test.YtoipfdbdifoecaaGreatDoorTie
import Derived.Test.YtoipfdbdifoecaaGreatDoorRLaw
import Derived.Test.YtoipfdbdifoecaaGreatDoorEvArg
import Derived.ProofKit
import Derived.WalkKit
import Derived.LaidMore
import Derived.OpenShut
import Derived.SevenTiedAt
namespace Go.Proofs.YtoipfdbdifoecaaGreatDoor
open Go Go.ChangeShapes Go.WideShapes Go.ChangeAt Go.RowKit Go.Ev
set_option linter.unusedVariables false
set_option linter.unusedSimpArgs false
theorem Tryz.own : ownKnob Tryz.prog.godebug = Option.none := by kernel_rfl
theorem Tryz.laidOut : laidOutB Tryz.prog = true := by kernel_rfl
theorem sh0 : shOf Tryz.prog 50 22 = some (.sl entSh 64 .nil) := by kernel_rfl
theorem sh1 : shOf Tryz.prog 50 28 = some (entSh) := by kernel_rfl
theorem sh2 : shOf Tryz.prog 50 3 = some (.i .i64 .nil) := by kernel_rfl
theorem prms : Tryz.f3.params.toList = [22, 28, 3] := by rw [Tryz.params3]
theorem tab_cells {H : Type} {enc : TypeId × Value → H} {P : Program} {w : World} {base : Nat} {spare : Nat → Bool} {held : Bool} {fuel : Nat} {t e n : Nat} {cs : List Value} {ds : List (DataW H)} {p : List MemPlace}
    (hu : P.underlying t = some (.array n e)) (he : P.underlying e = some (.int .u8)) (hc : P.cellsOf e = 1) (h : DataW.trod enc P w base spare held fuel t cs = some (.agg ds, p)) (i : Nat) (hi : i < n) : ∃ k : Int, cs[i]? = some (.int .u8 k) ∧ ds[i]? = some (.lit (.int .u8 k)) := by
  obtain ⟨xs, m, _, h2, _, h4, h5⟩ := DataW.trod_array hu h
  have hd : ds = xs.map (·.1) := by simpa using congrArg (fun z : DataW H × List MemPlace => match z.1 with | .agg l => l | _ => []) h2
  have h6 := h5 i hi
  rw [hc, Nat.mul_one] at h6
  have hx : xs[i]? = some xs[i] := List.getElem?_eq_getElem (by omega)
  rw [hx] at h6
  obtain ⟨k, e1, e2, _⟩ := DataW.trod_int he h6
  refine ⟨k, ?_, ?_⟩
  · have := congrArg (fun l => l[0]?) e1
    simp only [List.getElem?_take, List.getElem?_drop] at this
    simpa using this
  · rw [hd, List.getElem?_map, hx, e2]; rfl
def dsT : List (DataW Unit) := Lib.deBruijn64tab.map fun (n : Nat) => DataW.lit (.int .u8 (n : Int))
theorem laid_eq : (Rows.laid_math_bits_deBruijn64tab : DataW Unit) = .agg dsT := by kernel_rfl
theorem gl_laid {W : World} (h : laidMetH Tryz.prog ([("math/bits.deBruijn64tab", Rows.laid_math_bits_deBruijn64tab)]) W) : Gl W (Old W) := by
  have hp : laidMet Tryz.prog ([("math/bits.deBruijn64tab", Rows.laid_math_bits_deBruijn64tab)]) W := h
  obtain ⟨ps, ⟨g1, t1, cs1, f1, p1, q1, hg1, ht1, hv1, hd1, _, _⟩, _, _⟩ := hp
  obtain rfl := Option.some.inj ((show Tryz.prog.globalNamed "math/bits.deBruijn64tab" = some 0 by kernel_rfl).symm.trans hg1)
  obtain rfl := Option.some.inj ((show (Tryz.prog.globals[0]?).map (·.type) = some 144 by kernel_rfl).symm.trans ht1)
  rw [laid_eq] at hd1
  have hc : ∀ i, i < 64 → W.cell? ⟨0, i, none⟩ = some (.int .u8 ((Lib.deBruijn64tab.getD i 0 : Nat) : Int)) := fun i hi => by
    obtain ⟨k, e1, e2⟩ := tab_cells Tryz.underlying144 Tryz.underlying5 (by kernel_rfl) hd1 i hi
    rw [World.var?_cell hg1 hv1 i, ← Array.getElem?_toList, e1]
    unfold dsT at e2
    rw [List.getElem?_map, Option.map_eq_some_iff] at e2
    obtain ⟨n, e5, e6⟩ := e2
    injection e6 with e6
    injection e6 with _ e6
    rw [← e6, List.getD_eq_getElem?_getD, e5]; rfl
  intro p hp
  have hp : p = (0, Lib.deBruijn64tab.map fun (n : Nat) => Value.int .u8 n) := by simpa [glT] using hp
  subst hp
  have hl : Lib.deBruijn64tab.length = 64 := by decide +kernel
  refine ⟨?_, fun j hj => ?_⟩
  · have := hc 0 (by omega)
    show 0 < W.heap.size
    by_cases hz : 0 < W.heap.size
    · exact hz
    · exfalso
      have h0 : W.heap[0]? = none := Array.getElem?_eq_none (by omega)
      simp [World.cell?, h0] at this
  · have hj' : j < Lib.deBruijn64tab.length := by simpa using hj
    show W.cell? ⟨0, j, none⟩ = _
    rw [hc j (by omega)]
    simp [List.getD_eq_getElem?_getD, hj']
theorem law_calls_true : ∀ dss, OkAll Tryz.prog Tryz.f3.params.toList dss → call Ir.ir 3 (argsA Tryz.prog Tryz.f3.params.toList dss) [] = some (.d (.bool true), []) := by
  intro dss h
  rw [prms] at h ⊢
  obtain ⟨_, _, rfl, h0, h⟩ := okAll_cons sh0 h
  obtain ⟨_, _, rfl, h1, h⟩ := okAll_cons sh1 h
  obtain ⟨_, _, rfl, h2, h⟩ := okAll_cons sh2 h
  obtain rfl := okAll_nil h
  obtain ⟨xs, _, rfl, hl, hq, h0⟩ := ok_sl h0
  obtain ⟨es, he⟩ := ens_of (xs := [_]) (fun q hq => by rw [List.mem_singleton.1 hq]; exact h1)
  obtain ⟨o, _, rfl, _, _, h2⟩ := ok_i h2
  obtain rfl := ok_n h2
  obtain ⟨l, rfl⟩ := ens_of hq
  match es, he with
  | [e], he =>
    simp only [List.map_cons, List.map_nil, List.cons.injEq, and_true] at he
    subst he
    simp only [argsA, argA_sl Tryz.underlying22, argA_st Tryz.underlying28, argA_i Tryz.underlying3]
    exact t_rall l (by simp [reachBytes] at hl; omega) e o
theorem door_met (os : Os) (args : Array Value) : laidMetH Tryz.prog ([("math/bits.deBruijn64tab", Rows.laid_math_bits_deBruijn64tab)]) ((World.doorLaid Tryz.prog 200 os).forCall (fun _ _ => 0) ⟨#[], args, []⟩).memory :=
  show laidMet Tryz.prog ([("math/bits.deBruijn64tab", Rows.laid_math_bits_deBruijn64tab)]) _ from laidMet_of_run' 8 (by kernel_rfl) (by kernel_rfl)
theorem law_lifted (os : Os) (started : os.Started) (H : Type) (enc : TypeId × Value → H) :
    ReturnsInHanded {} Tryz.checked os 3 .any (fun w args => (Rows.replayAllSpec.pre enc Tryz.prog Tryz.f3 [] false w args ∧ laidMetH Tryz.prog ([("math/bits.deBruijn64tab", Rows.laid_math_bits_deBruijn64tab)]) w) ∧ sizedMet enc Tryz.prog Tryz.f3 (OpenSpec.ofChange Rows.replayAllSpec) false w args) (Rows.replayAllSpec.post enc Tryz.prog Tryz.f3 false true false false) := by
  refine returns_laid (C := Tryz.checked) Tryz.own started (by kernel_rfl) Ir.tab Tryz.func3 Tryz.laidOut (tb := 4) (fn := Tryz.f3) (by kernel_rfl) Tryz.underlying4 rfl ?_ ?_ law_calls_true true false
    (ChangeSpec.witness_shaped (enc := enc) (C := Tryz.checked) (os := os) (X := fun w _ => laidMetH Tryz.prog ([("math/bits.deBruijn64tab", Rows.laid_math_bits_deBruijn64tab)]) w) false (World.doorLaid Tryz.prog 200 os) #[.slice Option.none 0 0, .agg #[.int .i64 0, .int .i64 0, .int .u64 0, .int .i64 0, .int .u8 0, .slice Option.none 0 0], .int .i64 0] 12 rfl (World.shaped_of_RefB (by kernel_rfl) (by kernel_rfl)) (by kernel_rfl) (by kernel_rfl) (by kernel_rfl) (door_met os _)) (fun _ h => gl_laid h)
  · intro ds hd
    have hd2 : ds.length = 3 := hd
    match ds, hd2 with
    | [_, _, _], _ => rfl
  · intro t ht
    have : t = 22 ∨ t = 28 ∨ t = 3 := by
      have h2 : t ∈ Tryz.f3.params.toList := ht
      rw [prms] at h2; simp only [List.mem_cons, List.not_mem_nil, or_false] at h2; rcases h2 with rfl | rfl | rfl <;> simp
    rcases this with rfl | rfl | rfl
    · exact ⟨⟨_, sh0⟩, by kernel_rfl, of_decide_eq_true (by kernel_rfl)⟩
    · exact ⟨⟨_, sh1⟩, by kernel_rfl, of_decide_eq_true (by kernel_rfl)⟩
    · exact ⟨⟨_, sh2⟩, by kernel_rfl, of_decide_eq_true (by kernel_rfl)⟩
theorem row_holds : Rows.replayAllRow.holds Tryz.pinned (OpenSpec.ofChange Rows.replayAllSpec) :=
  OpenClaim.holds_of_wide 3 Tryz.f3 rfl rfl rfl rfl rfl rfl rfl ⟨rfl, rfl, rfl, rfl, rfl⟩ rfl rfl rfl rfl rfl (by kernel_rfl) Tryz.func3 (by kernel_rfl)
    (of_decide_eq_true (by kernel_rfl)) (by unfold Func.isWrapper; first | (rw [if_pos (by decide +kernel)]; kernel_rfl) | (rw [if_neg (by decide +kernel)]; exact ⟨rfl, rfl⟩))
    (fun os started H enc _ => law_lifted os started H enc)
theorem replayAll_holds : Rows.ReplayAllCardSaid :=
  Claim7.holds_tied_plain_at .later [] [.data] true (true, "8c5d89d5302e3386fed0948fa6f2c735ffd69b261b7dc071f0f902d5ba79429a") true
    row_holds (fun _ h => by cases h) (by kernel_rfl) (fun _ h => by cases h) replayAll_row_tie rfl ⟨rfl, rfl⟩ (by kernel_rfl) rfl
    (fun f fn hf hfn => by
      obtain rfl : f = 3 := Option.some.inj ((show Tryz.prog.funcNamed "spence/spencelaw20.ReplayAll" = some 3 by kernel_rfl).symm.trans hf) |>.symm
      obtain rfl : fn = Tryz.f3 := (Option.some.inj (Tryz.func3.symm.trans hfn)).symm
      exact ⟨by kernel_rfl, fun j t ht => by
        have hm : t ∈ Tryz.f3.params.toList := by simpa using Array.mem_of_getElem? ht
        rw [prms] at hm
        have hall : ([22, 28, 3].all fun u => !Tryz.prog.wantsStandIn u) = true := by kernel_rfl
        exact (show Tryz.prog.wantsStandIn t = false by simpa using List.all_eq_true.1 hall t hm)⟩)
    (by kernel_rfl)
end Go.Proofs.YtoipfdbdifoecaaGreatDoor
