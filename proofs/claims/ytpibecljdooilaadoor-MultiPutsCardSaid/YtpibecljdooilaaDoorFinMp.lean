/- Any parts are laid as one body just as the document says, or just where it says that they may not be, and Size is its length, for every input. No conditions. -/
import Derived.Test.YtpibecljdooilaaDoorRows
import Derived.Test.YtpibecljdooilaaDoorCards
import Derived.Test.YtpibecljdooilaaDoorTie
import Derived.Test.YtpibecljdooilaaDoorMul
import Derived.Test.YtpibecljdooilaaDoorEvArg
import Derived.ProofKit
import Derived.WalkKit
import Derived.LaidMore
import Derived.OpenShut
import Derived.SevenTiedAt
import Derived.Lay
import Derived.MakeChecks
namespace Go.Proofs.YtpibecljdooilaaDoor
open Go Go.ChangeShapes Go.WideShapes Go.ChangeAt Go.RowKit Go.Ev
set_option linter.unusedVariables false
set_option linter.unusedSimpArgs false
theorem Tryd.own : ownKnob Tryd.prog.godebug = Option.none := by kernel_rfl
theorem Tryd.laidOut : laidOutB Tryd.prog = true := by kernel_rfl
theorem sh0 : shOf Tryd.prog 50 22 = some (.sl (.i .i64 (.i .i64 (.sl (.i .u8 .nil) 1 .nil))) 40 .nil) := by kernel_rfl
theorem sh1 : shOf Tryd.prog 50 3 = some (.i .i64 .nil) := by kernel_rfl
theorem sh2 : shOf Tryd.prog 50 9 = some (.s .nil) := by kernel_rfl
theorem prms : Tryd.f3.params.toList = [22, 3, 9] := by rw [Tryd.params3]
theorem gl_laid {W : World} (h : laidMetH Tryd.prog ([("bytes.ErrTooLarge", Rows.laid_bytes_ErrTooLarge)]) W) : Gl W (Old W) := fun p hp => by simp [glT] at hp
theorem law_calls_true : ∀ dss, OkAll Tryd.prog Tryd.f3.params.toList dss → call ir2 3 (argsA Tryd.prog Tryd.f3.params.toList dss) [] = some (.d (.bool true), []) := by
  intro dss h
  rw [prms] at h ⊢
  obtain ⟨_, _, rfl, h0, h⟩ := okAll_cons sh0 h
  obtain ⟨_, _, rfl, h1, h⟩ := okAll_cons sh1 h
  obtain ⟨_, _, rfl, h2, h⟩ := okAll_cons sh2 h
  obtain rfl := okAll_nil h
  obtain ⟨xs, _, rfl, hl, hq, h0⟩ := ok_sl h0
  obtain ⟨n, _, rfl, _, _, h1⟩ := ok_i h1
  obtain ⟨s, _, rfl, l2, h2⟩ := ok_s h2
  obtain ⟨l, rfl, hb⟩ := parts_of hq
  simp only [argsA, argA_sl Tryd.underlying22, argA_i Tryd.underlying3, argA_s Tryd.underlying9]
  exact t_MultiPuts l n s (by simp [reachBytes] at hl; omega) (by simp [reachBytes] at l2; omega) hb
theorem law_lifted (os : Os) (started : os.Started) (H : Type) (enc : TypeId × Value → H) :
    ReturnsInHanded {} Tryd.checked os 3 .any (fun w args => (Rows.multiPutsSpec.pre enc Tryd.prog Tryd.f3 [] false w args ∧ laidMetH Tryd.prog ([("bytes.ErrTooLarge", Rows.laid_bytes_ErrTooLarge)]) w) ∧ sizedMet enc Tryd.prog Tryd.f3 (OpenSpec.ofChange Rows.multiPutsSpec) false w args) (Rows.multiPutsSpec.post enc Tryd.prog Tryd.f3 false true false false) := by
  refine returns_laid (C := Tryd.checked) Tryd.own started (by kernel_rfl) tab2 Tryd.func3 Tryd.laidOut (tb := 4) (fn := Tryd.f3) (by kernel_rfl) Tryd.underlying4 rfl ?_ ?_ law_calls_true true false
    (ChangeSpec.witness_shaped (enc := enc) (C := Tryd.checked) (os := os) (X := fun w _ => laidMetH Tryd.prog ([("bytes.ErrTooLarge", Rows.laid_bytes_ErrTooLarge)]) w) false (World.laidAll Tryd.prog os ([("bytes.ErrTooLarge", Rows.laid_bytes_ErrTooLarge)])) #[.slice none 0 0, .int .i64 0, .string ⟨#[]⟩] 12 (World.laidAll_os _ _ _) (World.shaped_of_ZipB (by kernel_rfl) (by kernel_rfl)) (by kernel_rfl) (by kernel_rfl) (by kernel_rfl) (by rw [MakeChecks.laidMetH_plain _ _ _ (by kernel_rfl)]; exact laidMet_laidAll _ (by kernel_rfl) (by kernel_rfl))) (fun _ h => gl_laid h)
  · intro ds hd
    have hd2 : ds.length = 3 := hd
    match ds, hd2 with
    | [_, _, _], _ => rfl
  · intro t ht
    have : t = 22 ∨ t = 3 ∨ t = 9 := by
      have h2 : t ∈ Tryd.f3.params.toList := ht
      rw [prms] at h2; simp only [List.mem_cons, List.not_mem_nil, or_false] at h2; rcases h2 with rfl | rfl | rfl <;> simp
    rcases this with rfl | rfl | rfl
    · exact ⟨⟨_, sh0⟩, by kernel_rfl, of_decide_eq_true (by kernel_rfl)⟩
    · exact ⟨⟨_, sh1⟩, by kernel_rfl, of_decide_eq_true (by kernel_rfl)⟩
    · exact ⟨⟨_, sh2⟩, by kernel_rfl, of_decide_eq_true (by kernel_rfl)⟩
theorem row_holds : Rows.multiPutsRow.holds Tryd.pinned (OpenSpec.ofChange Rows.multiPutsSpec) :=
  OpenClaim.holds_of_wide 3 Tryd.f3 rfl rfl rfl rfl rfl rfl rfl ⟨rfl, rfl, rfl, rfl, rfl⟩ rfl rfl rfl rfl rfl (by kernel_rfl) Tryd.func3 (by kernel_rfl)
    (of_decide_eq_true (by kernel_rfl)) (by unfold Func.isWrapper; first | (rw [if_pos (by decide +kernel)]; kernel_rfl) | (rw [if_neg (by decide +kernel)]; exact ⟨rfl, rfl⟩))
    (fun os started H enc _ => law_lifted os started H enc)
theorem multiPuts_holds : Rows.MultiPutsCardSaid :=
  Claim7.holds_tied_plain_at .later [] [.sentinel] true (true, "9ff114352264addb8c893f9962fcf05f2b897e218beff307cc0e513103f376b9") true
    row_holds (fun _ h => by cases h) (by kernel_rfl) (fun _ h => by cases h) multiPuts_row_tie rfl ⟨rfl, rfl⟩ (by kernel_rfl) rfl
    (fun f fn hf hfn => by
      obtain rfl : f = 3 := Option.some.inj ((show Tryd.prog.funcNamed "spence/spencelaw08.MultiPuts" = some 3 by kernel_rfl).symm.trans hf) |>.symm
      obtain rfl : fn = Tryd.f3 := (Option.some.inj (Tryd.func3.symm.trans hfn)).symm
      exact ⟨by kernel_rfl, fun j t ht => by
        have hm : t ∈ Tryd.f3.params.toList := by simpa using Array.mem_of_getElem? ht
        rw [prms] at hm
        have hall : ([22, 3, 9].all fun u => !Tryd.prog.wantsStandIn u) = true := by kernel_rfl
        exact (show Tryd.prog.wantsStandIn t = false by simpa using List.all_eq_true.1 hall t hm)⟩)
    (by kernel_rfl)
end Go.Proofs.YtpibecljdooilaaDoor
